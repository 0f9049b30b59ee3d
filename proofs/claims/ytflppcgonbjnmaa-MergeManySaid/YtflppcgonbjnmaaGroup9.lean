/-
  The walk of merge.Group. No conditions.
-/
import Derived.Test.YtflppcgonbjnmaaJH
import Derived.Deep.DeepCutAuto
namespace Go.Proofs.Ytflppcgonbjnmaa
open Go.RowKit
attribute [local go_sem ↓] Go.wp_at_zero Go.wp_at_succ

def groupP (L : List (List It)) : List It := if sortedL L then resolve L.flatten else []
/-- the lists that have been looked at are in the heap -/
structure GrpB (w0 wr : World) (Hb : Nat) (L : List (List It)) (k g n c : Nat) (H : List Qs) : Prop where
  st : HSt wr w0.heap.size Hb g n c H
  mb : MrgB It.cmp (H.map Qs.src) (L.take k)
  nk : n ≤ k
  nd : (H.map Qs.q).Nodup
  be : Below w0.heap.size w0 wr
theorem GrpB.zero {w0 w1 : World} (h : Below w0.heap.size w0 w1) (L : List (List It)) : GrpB w0 ((w1.alloc (.cells #[] 78)).alloc (.cells #[.slice (some ⟨w1.heap.size, 0, none⟩) 0 0] 72)) (w1.heap.size + 1) L 0 w1.heap.size 0 0 [] := by
  have hz := h.size
  have hb : Box ((w1.alloc (.cells #[] 78)).alloc (.cells #[.slice (some ⟨w1.heap.size, 0, none⟩) 0 0] 72)) (w1.heap.size + 1) 72 (.slice (some ⟨w1.heap.size, 0, none⟩) 0 0) := by
    have := Box.new (w1.alloc (.cells #[] 78)) 72 (.slice (some ⟨w1.heap.size, 0, none⟩) 0 0)
    rw [World.size_alloc] at this
    exact this
  refine ⟨⟨hb, ⟨⟨#[], ?_, rfl⟩, by simp, fun i hi => absurd hi (by simp)⟩, rfl, fun s hs => absurd hs (by simp), fun s hs => absurd hs (by simp), by omega, hz, Nat.le_refl _, by unfold maxLen; omega, by omega⟩, ?_, Nat.le_refl _, List.nodup_nil, (h.alloc hz _).alloc (by rw [World.size_alloc]; omega) _⟩
  · exact (Below.heap_alloc _ _ _ (by rw [World.size_alloc]; omega)).trans (heap_alloc_new w1 _)
  · rw [List.take_zero]
    exact MrgB.nil
theorem take_succ' {L : List (List It)} {k : Nat} {l : List It} (h : L[k]? = some l) : L.take (k + 1) = L.take k ++ [l] := by
  obtain ⟨hk, rfl⟩ := List.getElem?_eq_some_iff.1 h
  exact List.take_succ_eq_append_getElem hk
theorem GrpB.skip {w0 wr : World} {Hb k g n c : Nat} {L : List (List It)} {H : List Qs} (h : GrpB w0 wr Hb L k g n c H) (hk : L[k]? = some []) : GrpB w0 wr Hb L (k + 1) g n c H :=
  ⟨h.st, by rw [take_succ' hk]; exact h.mb.skip, by have := h.nk; omega, h.nd, h.be⟩
theorem GrpB.inn {w0 wr : World} {Hb k g n c : Nat} {L : List (List It)} {H : List Qs} (h : GrpB w0 wr Hb L k g n c H) {x : It} {r : List It} {A' : Option Addr} {c' m : Nat} (hm : (x :: r).length = m) (hr : Rd wr w0.heap.size A' (its (x :: r))) (hc : m ≤ c') :
    Qs.In (wr.alloc (.cells #[.slice A' m c'] 76)) w0.heap.size ⟨wr.heap.size, k, x, r⟩ := by
  subst hm
  exact ⟨A', c', Box.new _ _ _, hr.alloc h.be.size _, hc, h.be.size⟩
theorem GrpB.push {w0 wr : World} {Hb k g n c : Nat} {L : List (List It)} {H : List Qs} (h : GrpB w0 wr Hb L k g n c H) {x : It} {r : List It} (hk : L[k]? = some (x :: r)) {o : Obj} {w' : World} {g' c'' : Nat} (h' : HSt w' w0.heap.size Hb g' (n + 1) c'' (pushL ltQ H ⟨wr.heap.size, k, x, r⟩)) (hkp : Kp (wr.alloc o) w' Hb g) :
    GrpB w0 w' Hb L (k + 1) g' (n + 1) c'' (pushL ltQ H ⟨wr.heap.size, k, x, r⟩) := by
  refine ⟨h', ?_, by have := h.nk; omega, ?_, Kp.below_of (h.be.alloc h.be.size _) hkp (by rw [World.size_alloc]; have := h.be.size; omega) h.st.hb h.st.gb⟩
  · have h1 := h.mb.push it_cmp x r
    have hlk := (List.getElem?_eq_some_iff.1 hk).1
    rw [List.length_take, Nat.min_eq_left (by omega)] at h1
    rw [take_succ' hk, ← pushL_map (lt := ltQ) (lt' := srcL It.cmp) (f := Qs.src) (fun a b => rfl)]
    exact h1
  · have hp : ((pushL ltQ H ⟨wr.heap.size, k, x, r⟩).map Qs.q).Perm (wr.heap.size :: H.map Qs.q) := (pushL_perm H _).map Qs.q
    rw [hp.nodup_iff, List.nodup_cons]
    refine ⟨fun hm => ?_, h.nd⟩
    obtain ⟨s, hs, e⟩ := List.mem_map.1 hm
    have := (h.st.ins s hs).lt.2
    omega
/-- how much is left -/
def GST (w : World) (Hb : Nat) (L : List (List It)) (v : Value) (wq : World) (m : Nat) : Prop :=
  ∃ g n c H O R A no co E, v = .slice A no co ∧ Hid (GrpI w wq Hb L g n c H O R A no co E m)
theorem GrpB.go {w0 wr : World} {Hb g n c N : Nat} {L : List (List It)} {H : List Qs} (h : GrpB w0 wr Hb L N g n c H) (hN : L.length = N) (hs : sortedL L = true) : GST w0 Hb L (.slice none 0 0) wr L.flatten.length := by
  have hm := h.mb
  rw [← hN, List.take_length] at hm
  refine ⟨g, n, c, H, [], L, none, 0, 0, [], rfl, Lib.hid ⟨h.st, hm.start ?_, Own.nil, rfl, rfl, rfl, h.nd, rfl, h.be⟩⟩
  intro r hr
  exact srt_of_strict (strict_of_sorted (List.all_eq_true.1 hs r hr))
theorem hta_src (q : Nat) (a : Nat) (W : World) : (Instr.typeAssert (.iface 78 (.agg #[.pointer (some ⟨q, 0, none⟩), .int .i64 a])) 20 78 false).run Try.prog W = .ok (.agg #[.pointer (some ⟨q, 0, none⟩), .int .i64 a]) W := by kernel_rfl
set_option maxRecDepth 20000 in
set_option maxHeartbeats 4000000 in
theorem group_any (A : Option Addr) (c0 : Nat) (L : List (List It)) (w : World) (hl : LRd w w.heap.size A L) (hL : L.length ≤ 100000) (hF : L.flatten.length ≤ 1000000) :
    Calls Try.prog 21 #[.slice A L.length c0] w fun e w' => ∃ (A' : Option Addr) (c' : Nat), e = .returned (.slice A' (groupP L).length c') ∧ Own w' w.heap.size 59 7 A' (groupP L).length c' (its (groupP L)) ∧ Below w.heap.size w w' := by
  have hsh : shortL L := ⟨by omega, fun r hr => by
    obtain ⟨s, t, rfl⟩ := List.append_of_mem hr
    simp at hF
    omega⟩
  have HSO := Lib.hid (fun W (h : LRd W W.heap.size A L) => mergeSorted_any W A c0 L h hsh)
  obtain ⟨N, hN⟩ : ∃ N, L.length = N := ⟨_, rfl⟩
  have HN := Lib.hid hN
  have HL := Lib.hid hl
  rw [hN] at HSO hL ⊢
  clear hsh hl hN
  cases hs : sortedL L with
  | false =>
    rw [hs] at HSO
    have hg : groupP L = [] := by unfold groupP; rw [hs]; rfl
    rw [hg]
    clear hg
    go_enter Try.func21, Try.ntmps21
    go_wp2_with (go_at_call 28; refine (HSO.out _ HL.out).mono ?_; rintro e w1 ⟨rfl, hb1⟩)
    go_ret
    exact ⟨none, 0, rfl, Own.nil, hb1⟩
  | true =>
    rw [hs] at HSO
    have hg : groupP L = resolve L.flatten := by unfold groupP; rw [hs]; rfl
    rw [hg]
    clear hg
    go_enter Try.func21, Try.ntmps21
    go_wp2_with (go_at_call 28; refine (HSO.out _ HL.out).mono ?_; rintro e w1 ⟨rfl, hb1⟩)
    have hz1 := hb1.size
    obtain ⟨Hb, hHb⟩ : ∃ Hb, w1.heap.size + 1 = Hb := ⟨_, rfl⟩
    have HB0 := Lib.hid (GrpB.zero hb1 L)
    rw [hHb] at HB0
    simp only [hHb]
    clear hb1
    go_loopw [16] (fun v16 wr => ∃ k g n c H, k ≤ N ∧ v16 = .int .i64 (k : Int) ∧ Hid (GrpB w wr Hb L k g n c H)) (fun v16 _ => N - (intOf v16).toNat)
    case atStart => exact ⟨0, _, _, _, _, Nat.zero_le _, rfl, HB0⟩
    case round =>
      clear HB0
      obtain ⟨k, g, n, c, H, hk, rfl, HG⟩ := hrel
      rename World => wr
      by_cases hlt : k < N
      · have hkl : k < L.length := by rw [HN.out]; exact hlt
        have e1 : decide ((k : Int) < (N : Int)) = true := decide_eq_true (by omega)
        have k1 : (0 : Int) ≤ (k : Int) := by omega
        have k2 : (k : Int) < (N : Int) := by omega
        have hw3 : IntKind.i64.wrap ((k : Int) + 1) = ((k + 1 : Nat) : Int) := by rw [IntWalk.i64_in _ (by omega)]; omega
        obtain ⟨b, o, A', c', rfl, hb, hc, hc', hr⟩ := (HL.out.below HG.out.be).get hkl
        have HLK := Lib.hid (List.getElem?_eq_getElem hkl)
        obtain ⟨l, hll⟩ : ∃ l, L[k] = l := ⟨_, rfl⟩
        rw [hll] at hc hc' hr HLK
        cases l with
        | nil =>
          have HF := Lib.hid (HG.out.skip HLK.out)
          rw [List.length_nil] at hc
          clear hr hll
          go_wp2
          exact ⟨⟨k + 1, _, _, _, _, by omega, by first | rfl | go_num, HF⟩, by simp [intOf]; omega⟩
        | cons x r =>
          obtain ⟨m, hm⟩ : ∃ m, (x :: r).length = m := ⟨_, rfl⟩
          have HI := Lib.hid (HG.out.inn (m := m) (c' := c') hm hr (by omega))
          have hm0 : decide ((0 : Int) < (m : Int)) = true := decide_eq_true (by rw [List.length_cons] at hm; omega)
          have hm1 : 0 < m := by rw [List.length_cons] at hm; omega
          rw [hm] at hc hc'
          clear hr hll hm
          go_wp2_with (go_at_call 32; refine (heapPush_any w.heap.size Hb g n c H ⟨wr.heap.size, k, x, r⟩ _ (HG.out.st.below ((Below.refl _ wr).alloc (Nat.le_refl _) _)) HI.out (by have := HG.out.nk; omega)).mono ?_; rintro e w2 ⟨rfl, g', c', h2, hk2, -⟩; have HF := Lib.hid (HG.out.push HLK.out h2 hk2); clear h2 hk2)
          exact ⟨⟨k + 1, _, _, _, _, by omega, by first | rfl | go_num, HF⟩, by simp [intOf]; omega⟩
      · have e1 : decide ((k : Int) < (N : Int)) = false := decide_eq_false (by omega)
        have hkN : k = N := by omega
        subst hkN
        have HQ0 := Lib.hid (HG.out.go HN.out hs)
        clear HG hs hlt
        go_wp2
        go_loopw [2] (fun v2 wq => ∃ m, GST w Hb L v2 wq m) (fun v2 wq => leastN (GST w Hb L v2 wq))
        case atStart => exact ⟨_, HQ0.out⟩
        case round =>
          clear HQ0
          rename World => wq
          have hst := leastN_spec hrel
          obtain ⟨m, hm⟩ : ∃ m, leastN (GST w Hb L u2 wq) = m := ⟨_, rfl⟩
          rw [hm] at hst
          have HM := Lib.hid hm
          clear hrel hm
          obtain ⟨g, n, c, H, O, R, A2, no, co, E, rfl, HG⟩ := hst
          have HNL := Lib.hid HG.out.n_le
          have HML := Lib.hid HG.out.no_le
          have c0 := HG.out.st.box.cell
          have hbw := HG.out.be.size
          cases n with
          | zero =>
            have HE := Lib.hid HG.out.done
            have HEN := Lib.hid HG.out.en
            have HO := Lib.hid HG.out.ow
            have HB := Lib.hid HG.out.be
            clear HG HML HNL HM
            go_wp2_with (go_at_call 33; refine (srcLen_any _ _ _ _).mono ?_; rintro e w9 ⟨rfl, rfl⟩)
            go_ret
            have he := HE.out
            have hn := HEN.out
            subst hn
            rw [← he]
            exact ⟨A2, co, rfl, HO.out, HB.out⟩
          | succ k =>
            have hlen := HG.out.st.len
            obtain ⟨s, hs⟩ : ∃ s, H[0]? = some s := ⟨_, List.getElem?_eq_getElem (by omega)⟩
            have HS0 := Lib.hid hs
            have h1000 := HNL.out
            rw [HN.out] at h1000
            have HEN := Lib.hid HG.out.en
            have hno := HML.out
            clear hs hlen HML HNL
            obtain ⟨q, at_, x, r⟩ := s
            have HPOP := Lib.hid (show ∀ W, HSt W w.heap.size Hb g (k + 1) c H → Calls Try.prog 34 #[.iface 70 (.pointer (some ⟨Hb, 0, none⟩))] W fun e w' => e = .returned (.iface 78 (.agg #[.pointer (some ⟨q, 0, none⟩), .int .i64 at_])) ∧ HSt w' w.heap.size Hb g k c ((popL ltQ H).take k) ∧ Kp W w' Hb g from fun W h => heapPop_any w.heap.size Hb g k c H ⟨q, at_, x, r⟩ W h HS0.out (by omega))
            have hta := hta_src q at_
            have k1 : decide ((0 : Int) < ((k + 1 : Nat) : Int)) = true := decide_eq_true (by omega)
            go_upto_region 14 with (first
              | (show wpList _ _ _ ({ dst := none, op := Op.store _ (.tmp 7) _, type := _, pos := _, after := _, guard := _ } :: _) _ _; refine wpList_store_mid rfl 59 (.tmp 7) (.tmp 45) rfl w3.heap.size 0 x.vals.toArray rfl rfl (there_made7 _ _ _ _ _ _ _ _) (by kernel_rfl) (all_oneCell_toArray (It.one x)) ?_; refine IBox.madeW w3 _ _ _ _ _ _ _ x ?_; intro w4 HI4 HB4; have HM4 := Lib.hid (HM3.out.below HB4.out))
              | (show wpList _ _ _ ({ dst := none, op := Op.store _ (.tmp 6) _, type := _, pos := _, after := _, guard := _ } :: _) _ _; refine wpList_store_mid rfl 78 (.tmp 6) (.tmp 42) rfl w1.heap.size 0 (Qs.vals ⟨q, at_, x, r⟩).toArray rfl rfl (there_made2 _ _ _) (by kernel_rfl) (all_oneCell_toArray (Qs.one ⟨q, at_, x, r⟩)) ?_; refine SrcBox.madeW w1 _ _ ⟨q, at_, x, r⟩ ?_; intro w2 HI2 HB2; have HM2 := Lib.hid ((HM1.out.below HB2.out).withS HI2.out); have cs2 : w2.cell? ⟨w1.heap.size, 0, none⟩ = some (.pointer (some ⟨q, 0, none⟩)) := cell_of_row w2 w1.heap.size 0 _ _ (0, 0) HI2.out)
              | (go_at_call 35; refine (first_any w.heap.size q x r _ HM2.out.qbox).mono ?_; rintro e w3 ⟨rfl, hb3⟩; have HM3 := Lib.hid (HM2.out.below hb3); clear hb3)
              | (go_at_call 34; refine (HPOP.out _ HG.out.st).mono ?_; rintro e w1 ⟨rfl, h1, hk1⟩; obtain ⟨Aq, cq, hM⟩ := HG.out.taken HS0.out h1 hk1; have HM1 := Lib.hid hM; clear h1 hk1 hM)
              | (go_at_call 33; refine (srcLen_any _ _ _ _).mono ?_; rintro e w9 ⟨rfl, rfl⟩))
            show Code.wp _ _ _ ({ tmps := _, defers := [] } : Act) _
            go_cut [61] (fun s61 wx => ∃ b : Bool, s61 = .bool b ∧ Hid ((if b = true then E ++ [x] else E) = addE E x) ∧ Hid (GrpM w wx Hb g k c ((popL ltQ H).take k) A2 no co E ⟨q, at_, x, r⟩ Aq cq (some w1.heap.size)) ∧ Hid (IBox wx w3.heap.size x))
            case first =>
              by_cases hn0 : no = 0
              · have hE0 : E = [] := List.eq_nil_of_length_eq_zero (by have := HEN.out; omega)
                have hj1 : ((no : Int) == 0) = true := by rw [beq_iff_eq]; omega
                have HC : True := trivial
                go_wp2_with fail
                refine region_wz (fun W => True) none (by kernel_rfl) ?_
                apply WZ.take (i := 0) (some 48) rfl rfl (by kernel_rfl) (by kernel_rfl) (by kernel_rfl) (calm_panic _) (by kernel_rfl)
                case hy => (refine .inl ⟨by kernel_rfl, fun W hC => ?_⟩; (try dsimp only at hC); go_simp; (try simp only [hj1]); rfl)
                case hC => exact HC
                case ha => (simp only [Act.put, List.setIfInBounds_toArray, List.set_cons_zero, List.set_cons_succ]; rfl)
                apply WZ.take (i := 1) (some 49) rfl rfl (by kernel_rfl) (by kernel_rfl) (by kernel_rfl) (calm_panic _) (by kernel_rfl)
                case hy => (refine .inl ⟨by kernel_rfl, fun W hC => ?_⟩; (try dsimp only at hC); go_simp; (try simp only [hj1]); rfl)
                case hC => exact HC
                case ha => (simp only [Act.put, List.setIfInBounds_toArray, List.set_cons_zero, List.set_cons_succ]; rfl)
                apply WZ.take (i := 2) (some 50) rfl rfl (by kernel_rfl) (by kernel_rfl) (by kernel_rfl) (calm_panic _) (by kernel_rfl)
                case hy => (refine .inl ⟨by kernel_rfl, fun W hC => ?_⟩; (try dsimp only at hC); go_simp; (try simp only [hj1]); rfl)
                case hC => exact HC
                case ha => (simp only [Act.put, List.setIfInBounds_toArray, List.set_cons_zero, List.set_cons_succ]; rfl)
                apply WZ.take (i := 3) (some 51) rfl rfl (by kernel_rfl) (by kernel_rfl) (by kernel_rfl) (calm_panic _) (by kernel_rfl)
                case hy => exact .inr ⟨by kernel_rfl, rfl⟩
                case hC => exact HC
                case ha => (simp only [Act.put, List.setIfInBounds_toArray, List.set_cons_zero, List.set_cons_succ]; rfl)
                apply WZ.take (i := 4) (some 52) rfl rfl (by kernel_rfl) (by kernel_rfl) (by kernel_rfl) (calm_panic _) (by kernel_rfl)
                case hy => exact .inr ⟨by kernel_rfl, rfl⟩
                case hC => exact HC
                case ha => (simp only [Act.put, List.setIfInBounds_toArray, List.set_cons_zero, List.set_cons_succ]; rfl)
                apply WZ.take (i := 5) (some 53) rfl rfl (by kernel_rfl) (by kernel_rfl) (by kernel_rfl) (calm_panic _) (by kernel_rfl)
                case hy => exact .inr ⟨by kernel_rfl, rfl⟩
                case hC => exact HC
                case ha => (simp only [Act.put, List.setIfInBounds_toArray, List.set_cons_zero, List.set_cons_succ]; rfl)
                apply WZ.take (i := 6) (some 54) rfl rfl (by kernel_rfl) (by kernel_rfl) (by kernel_rfl) (calm_panic _) (by kernel_rfl)
                case hy => exact .inr ⟨by kernel_rfl, rfl⟩
                case hC => exact HC
                case ha => (simp only [Act.put, List.setIfInBounds_toArray, List.set_cons_zero, List.set_cons_succ]; rfl)
                apply WZ.take (i := 7) (some 55) rfl rfl (by kernel_rfl) (by kernel_rfl) (by kernel_rfl) (calm_panic _) (by kernel_rfl)
                case hy => exact .inr ⟨by kernel_rfl, rfl⟩
                case hC => exact HC
                case ha => (simp only [Act.put, List.setIfInBounds_toArray, List.set_cons_zero, List.set_cons_succ]; rfl)
                apply WZ.take (i := 8) (some 56) rfl rfl (by kernel_rfl) (by kernel_rfl) (by kernel_rfl) (calm_panic _) (by kernel_rfl)
                case hy => exact .inr ⟨by kernel_rfl, rfl⟩
                case hC => exact HC
                case ha => (simp only [Act.put, List.setIfInBounds_toArray, List.set_cons_zero, List.set_cons_succ]; rfl)
                apply WZ.take (i := 9) (some 57) rfl rfl (by kernel_rfl) (by kernel_rfl) (by kernel_rfl) (calm_panic _) (by kernel_rfl)
                case hy => exact .inr ⟨by kernel_rfl, rfl⟩
                case hC => exact HC
                case ha => (simp only [Act.put, List.setIfInBounds_toArray, List.set_cons_zero, List.set_cons_succ]; rfl)
                apply WZ.take (i := 10) (some 58) rfl rfl (by kernel_rfl) (by kernel_rfl) (by kernel_rfl) (calm_panic _) (by kernel_rfl)
                case hy => exact .inr ⟨by kernel_rfl, rfl⟩
                case hC => exact HC
                case ha => (simp only [Act.put, List.setIfInBounds_toArray, List.set_cons_zero, List.set_cons_succ]; rfl)
                apply WZ.take (i := 11) (some 59) rfl rfl (by kernel_rfl) (by kernel_rfl) (by kernel_rfl) (calm_panic _) (by kernel_rfl)
                case hy => exact .inr ⟨by kernel_rfl, rfl⟩
                case hC => exact HC
                case ha => (simp only [Act.put, List.setIfInBounds_toArray, List.set_cons_zero, List.set_cons_succ]; rfl)
                apply WZ.take (i := 12) (some 60) rfl rfl (by kernel_rfl) (by kernel_rfl) (by kernel_rfl) (calm_panic _) (by kernel_rfl)
                case hy => exact .inr ⟨by kernel_rfl, rfl⟩
                case hC => exact HC
                case ha => (simp only [Act.put, List.setIfInBounds_toArray, List.set_cons_zero, List.set_cons_succ]; rfl)
                apply WZ.take (i := 13) (some 61) rfl rfl (by kernel_rfl) (by kernel_rfl) (by kernel_rfl) (calm_panic _) (by kernel_rfl)
                case hy => (refine .inl ⟨by kernel_rfl, fun W hC => ?_⟩; (try dsimp only at hC); go_simp; (try simp only [hj1]); rfl)
                case hC => exact HC
                case ha => (simp only [Act.put, List.setIfInBounds_toArray, List.set_cons_zero, List.set_cons_succ]; rfl)
                refine WZ.done (by kernel_rfl) ?_ _
                simp only [Calm, Exit.then]
                go_wp2_with fail
                go_meet
                exact ⟨true, rfl, Lib.hid (by rw [hE0]; rfl), Lib.hid (HM4.out.below ((Below.refl _ w4).drew)), Lib.hid (HI4.out.below ((Below.refl _ w4).drew) HI4.out.lt)⟩
              · obtain ⟨j, hj0⟩ : ∃ j, no = j + 1 := ⟨no - 1, by omega⟩
                have how := HM4.out.ow
                rw [hj0] at how
                obtain ⟨gA, z, rfl, hgA, hgl, hzl, hrz⟩ := how.lastI
                have hj1 : ((no : Int) == 0) = false := by rw [beq_eq_false_iff_ne]; omega
                have hj2 : IntKind.i64.wrap ((no : Int) - 1) = (j : Int) := by rw [IntWalk.i64_in _ (by omega)]; omega
                have hj3 : (0 : Int) ≤ (j : Int) := by omega
                have hj4 : (j : Int) < (no : Int) := by omega
                have HCS := Lib.hid (cellSame_any z.c x.c)
                obtain ⟨b, hb⟩ : ∃ b, sm z x = b := ⟨_, rfl⟩
                rw [show z.c.same x.c = b from hb] at HCS
                have HEE := Lib.hid (show (if (!b) = true then E ++ [x] else E) = addE E x by rw [addE_last hzl, hb]; cases b <;> rfl)
                have HC : w4.drew.rangeAt gA (j * 7) (Cl.vals z.c) ∧ w4.drew.rangeAt w3.heap.size 0 (Cl.vals x.c) := ⟨hrz, HI4.out.cell6⟩
                clear hb hzl hrz how hn0 hj0
                refine region_wz (fun W => W.rangeAt gA (j * 7) (Cl.vals z.c) ∧ W.rangeAt w3.heap.size 0 (Cl.vals x.c)) none (by kernel_rfl) ?_
                apply WZ.take (i := 0) (some 48) rfl rfl (by kernel_rfl) (by kernel_rfl) (by kernel_rfl) (calm_panic _) (by kernel_rfl)
                case hy => (refine .inl ⟨by kernel_rfl, fun W hC => ?_⟩; (try dsimp only at hC); go_simp; (try simp only [hj1,hj2]); rfl)
                case hC => exact HC
                case ha => (simp only [Act.put, List.setIfInBounds_toArray, List.set_cons_zero, List.set_cons_succ]; rfl)
                apply WZ.take (i := 1) (some 49) rfl rfl (by kernel_rfl) (by kernel_rfl) (by kernel_rfl) (calm_panic _) (by kernel_rfl)
                case hy => (refine .inl ⟨by kernel_rfl, fun W hC => ?_⟩; (try dsimp only at hC); go_simp; (try simp only [hj1,hj2]); rfl)
                case hC => exact HC
                case ha => (simp only [Act.put, List.setIfInBounds_toArray, List.set_cons_zero, List.set_cons_succ]; rfl)
                apply WZ.take (i := 2) (some 50) rfl rfl (by kernel_rfl) (by kernel_rfl) (by kernel_rfl) (calm_panic _) (by kernel_rfl)
                case hy => (refine .inl ⟨by kernel_rfl, fun W hC => ?_⟩; (try dsimp only at hC); go_simp; (try simp only [hj1,hj2]); rfl)
                case hC => exact HC
                case ha => (simp only [Act.put, List.setIfInBounds_toArray, List.set_cons_zero, List.set_cons_succ]; rfl)
                apply WZ.take (i := 3) (some 51) rfl rfl (by kernel_rfl) (by kernel_rfl) (by kernel_rfl) (calm_panic _) (by kernel_rfl)
                case hy => (refine .inl ⟨by kernel_rfl, fun W hC => ?_⟩; (try dsimp only at hC); go_simp; (try simp only [hj1,hj2]); rfl)
                case hC => exact HC
                case ha => (simp only [Act.put, List.setIfInBounds_toArray, List.set_cons_zero, List.set_cons_succ]; rfl)
                apply WZ.take (i := 4) (some 52) rfl rfl (by kernel_rfl) (by kernel_rfl) (by kernel_rfl) (calm_panic _) (by kernel_rfl)
                case hy => (refine .inl ⟨by kernel_rfl, fun W hC => ?_⟩; (try dsimp only at hC); go_simp; (try simp only [hj1,hj2]); rfl)
                case hC => exact HC
                case ha => (simp only [Act.put, List.setIfInBounds_toArray, List.set_cons_zero, List.set_cons_succ]; rfl)
                apply WZ.take (i := 5) (some 53) rfl rfl (by kernel_rfl) (by kernel_rfl) (by kernel_rfl) (calm_panic _) (by kernel_rfl)
                case hy => (refine .inl ⟨by kernel_rfl, fun W hC => ?_⟩; (try dsimp only at hC); go_simp; (try simp only [hj1,hj2]); rfl)
                case hC => exact HC
                case ha => (simp only [Act.put, List.setIfInBounds_toArray, List.set_cons_zero, List.set_cons_succ]; rfl)
                apply WZ.take (i := 6) (some 54) rfl rfl (by kernel_rfl) (by kernel_rfl) (by kernel_rfl) (calm_panic _) (by kernel_rfl)
                case hy => (refine .inl ⟨by kernel_rfl, fun W hC => ?_⟩; (try dsimp only at hC); go_simp; (try simp only [hj1,hj2]); rfl)
                case hC => exact HC
                case ha => (simp only [Act.put, List.setIfInBounds_toArray, List.set_cons_zero, List.set_cons_succ]; rfl)
                apply WZ.take (i := 7) (some 55) rfl rfl (by kernel_rfl) (by kernel_rfl) (by kernel_rfl) (calm_panic _) (by kernel_rfl)
                case hy => (refine .inl ⟨by kernel_rfl, fun W hC => ?_⟩; (try dsimp only at hC); go_simp; (try simp only [hj1,hj2]); rfl)
                case hC => exact HC
                case ha => (simp only [Act.put, List.setIfInBounds_toArray, List.set_cons_zero, List.set_cons_succ]; rfl)
                apply WZ.take (i := 8) (some 56) rfl rfl (by kernel_rfl) (by kernel_rfl) (by kernel_rfl) (calm_panic _) (by kernel_rfl)
                case hy => first | (apply yieldsIf_load_mid (by kernel_rfl) _ _ rfl _ _ rfl; (case hS => (intro W hC; exact (show World.rangeAt _ _ _ (Cl.vals _) from hC.1))); (case hu => exact Try.underlying53); (case hd => rfl); (case hi => kernel_rfl)) | (apply yieldsIf_load_mid (by kernel_rfl) _ _ rfl _ _ rfl; (case hS => (intro W hC; exact (show World.rangeAt _ _ _ (Cl.vals _) from hC.2.1))); (case hu => exact Try.underlying53); (case hd => rfl); (case hi => kernel_rfl)) | (apply yieldsIf_load_mid (by kernel_rfl) _ _ rfl _ _ rfl; (case hS => (intro W hC; exact (show World.rangeAt _ _ _ (Cl.vals _) from hC.2.2.1))); (case hu => exact Try.underlying53); (case hd => rfl); (case hi => kernel_rfl)) | (apply yieldsIf_load_mid (by kernel_rfl) _ _ rfl _ _ rfl; (case hS => (intro W hC; exact (show World.rangeAt _ _ _ (Cl.vals _) from hC.2.2.2.1))); (case hu => exact Try.underlying53); (case hd => rfl); (case hi => kernel_rfl)) | (apply yieldsIf_load_mid (by kernel_rfl) _ _ rfl _ _ rfl; (case hS => (intro W hC; exact (show World.rangeAt _ _ _ (Cl.vals _) from hC.2.2.2))); (case hu => exact Try.underlying53); (case hd => rfl); (case hi => kernel_rfl)) | (apply yieldsIf_load_mid (by kernel_rfl) _ _ rfl _ _ rfl; (case hS => (intro W hC; exact (show World.rangeAt _ _ _ (Cl.vals _) from hC.2.2))); (case hu => exact Try.underlying53); (case hd => rfl); (case hi => kernel_rfl)) | (apply yieldsIf_load_mid (by kernel_rfl) _ _ rfl _ _ rfl; (case hS => (intro W hC; exact (show World.rangeAt _ _ _ (Cl.vals _) from hC.2))); (case hu => exact Try.underlying53); (case hd => rfl); (case hi => kernel_rfl)) | (apply yieldsIf_load_mid (by kernel_rfl) _ _ rfl _ _ rfl; (case hS => (intro W hC; exact (show World.rangeAt _ _ _ (Cl.vals _) from hC))); (case hu => exact Try.underlying53); (case hd => rfl); (case hi => kernel_rfl))
                case hC => exact HC
                case ha => (simp only [Act.put, List.setIfInBounds_toArray, List.set_cons_zero, List.set_cons_succ]; rfl)
                apply WZ.take (i := 9) (some 57) rfl rfl (by kernel_rfl) (by kernel_rfl) (by kernel_rfl) (calm_panic _) (by kernel_rfl)
                case hy => (refine .inl ⟨by kernel_rfl, fun W hC => ?_⟩; (try dsimp only at hC); go_simp; (try simp only [hj1,hj2]); rfl)
                case hC => exact HC
                case ha => (simp only [Act.put, List.setIfInBounds_toArray, List.set_cons_zero, List.set_cons_succ]; rfl)
                apply WZ.take (i := 10) (some 58) rfl rfl (by kernel_rfl) (by kernel_rfl) (by kernel_rfl) (calm_panic _) (by kernel_rfl)
                case hy => first | (apply yieldsIf_load_mid (by kernel_rfl) _ _ rfl _ _ rfl; (case hS => (intro W hC; exact (show World.rangeAt _ _ _ (Cl.vals _) from hC.1))); (case hu => exact Try.underlying53); (case hd => rfl); (case hi => kernel_rfl)) | (apply yieldsIf_load_mid (by kernel_rfl) _ _ rfl _ _ rfl; (case hS => (intro W hC; exact (show World.rangeAt _ _ _ (Cl.vals _) from hC.2.1))); (case hu => exact Try.underlying53); (case hd => rfl); (case hi => kernel_rfl)) | (apply yieldsIf_load_mid (by kernel_rfl) _ _ rfl _ _ rfl; (case hS => (intro W hC; exact (show World.rangeAt _ _ _ (Cl.vals _) from hC.2.2.1))); (case hu => exact Try.underlying53); (case hd => rfl); (case hi => kernel_rfl)) | (apply yieldsIf_load_mid (by kernel_rfl) _ _ rfl _ _ rfl; (case hS => (intro W hC; exact (show World.rangeAt _ _ _ (Cl.vals _) from hC.2.2.2.1))); (case hu => exact Try.underlying53); (case hd => rfl); (case hi => kernel_rfl)) | (apply yieldsIf_load_mid (by kernel_rfl) _ _ rfl _ _ rfl; (case hS => (intro W hC; exact (show World.rangeAt _ _ _ (Cl.vals _) from hC.2.2.2))); (case hu => exact Try.underlying53); (case hd => rfl); (case hi => kernel_rfl)) | (apply yieldsIf_load_mid (by kernel_rfl) _ _ rfl _ _ rfl; (case hS => (intro W hC; exact (show World.rangeAt _ _ _ (Cl.vals _) from hC.2.2))); (case hu => exact Try.underlying53); (case hd => rfl); (case hi => kernel_rfl)) | (apply yieldsIf_load_mid (by kernel_rfl) _ _ rfl _ _ rfl; (case hS => (intro W hC; exact (show World.rangeAt _ _ _ (Cl.vals _) from hC.2))); (case hu => exact Try.underlying53); (case hd => rfl); (case hi => kernel_rfl)) | (apply yieldsIf_load_mid (by kernel_rfl) _ _ rfl _ _ rfl; (case hS => (intro W hC; exact (show World.rangeAt _ _ _ (Cl.vals _) from hC))); (case hu => exact Try.underlying53); (case hd => rfl); (case hi => kernel_rfl))
                case hC => exact HC
                case ha => (simp only [Act.put, List.setIfInBounds_toArray, List.set_cons_zero, List.set_cons_succ]; rfl)
                -- 11
                refine WZ.one (i := 11) rfl (by kernel_rfl) ?_
                conv => arg 4; arg 1; whnf
                go_wp2_with (go_at_call 36; refine (HCS.out _).mono ?_; rintro e w5 ⟨rfl, hb5⟩)
                have HM5 := Lib.hid (HM4.out.below (below_of_drew' hb5))
                have HI5 := Lib.hid (HI4.out.below (below_of_drew' hb5) HI4.out.lt)
                have HC : w5.rangeAt gA (j * 7) (Cl.vals z.c) ∧ w5.rangeAt w3.heap.size 0 (Cl.vals x.c) := ⟨rangeAt_below HC.1 hb5 hgl, rangeAt_below HC.2 hb5 HI4.out.lt⟩
                clear hb5
                refine ⟨HC, ?_⟩
                apply WZ.take (i := 12) (some 60) rfl rfl (by kernel_rfl) (by kernel_rfl) (by kernel_rfl) (calm_panic _) (by kernel_rfl)
                case hy => (refine .inl ⟨by kernel_rfl, fun W hC => ?_⟩; (try dsimp only at hC); go_simp; (try simp only [hj1,hj2]); rfl)
                case hC => exact HC
                case ha => (simp only [Act.put, List.setIfInBounds_toArray, List.set_cons_zero, List.set_cons_succ]; rfl)
                apply WZ.take (i := 13) (some 61) rfl rfl (by kernel_rfl) (by kernel_rfl) (by kernel_rfl) (calm_panic _) (by kernel_rfl)
                case hy => (refine .inl ⟨by kernel_rfl, fun W hC => ?_⟩; (try dsimp only at hC); go_simp; (try simp only [hj1,hj2]); rfl)
                case hC => exact HC
                case ha => (simp only [Act.put, List.setIfInBounds_toArray, List.set_cons_zero, List.set_cons_succ]; rfl)
                refine WZ.done (by kernel_rfl) ?_ _
                simp only [Calm, Exit.then]
                go_wp2_with fail
                go_meet
                exact ⟨!b, rfl, HEE, HM5, HI5⟩
            case rest =>
              obtain ⟨b, rfl, HEE, HM5, HI5⟩ := hcut
              rename World => w5
              go_upto_if 61 with fail
              show Code.wp _ _ _ ({ tmps := _, defers := [] } : Act) _
              go_cut [2] (fun s2 wx => ∃ A' no' co', s2 = .slice A' no' co' ∧ Hid (GrpM w wx Hb g k c ((popL ltQ H).take k) A' no' co' (addE E x) ⟨q, at_, x, r⟩ Aq cq (some w1.heap.size)) ∧ Hid ((addE E x).length = no'))
              case first =>
                have hzb := HM5.out.be.size
                cases b with
                | false =>
                  have he := HEE.out
                  rw [if_neg (by decide)] at he
                  have HX := Lib.hid (show (addE E x).length = no by rw [← he]; exact HEN.out)
                  rw [he] at HM5
                  clear he
                  go_wp2
                  go_meet
                  exact ⟨A2, no, co, rfl, HM5, HX⟩
                | true =>
                  have he := HEE.out
                  rw [if_pos rfl] at he
                  have HX := Lib.hid (show (addE E x).length = no + 1 by rw [← he, List.length_append, HEN.out]; rfl)
                  have HEX := Lib.hid he
                  have hno1 : no + 1 ≤ 1000000 := by
                    have h1 := HG.out.pos HS0.out
                    omega
                  clear he
                  go_wp2_with (first
                    | (show wpList _ _ _ ({ dst := some 63, op := Op.load _ _, type := _, pos := _, after := _, guard := _ } :: _) _ _; refine wpList_load_mid rfl 59 (.tmp 7) rfl w3.heap.size 0 rfl [.string x.c.row, .string x.c.col, .int .u64 x.c.ts, .int .u64 x.c.seq, .bool x.c.del, .string x.c.val, .int .i64 x.pos] _ HI5.out.range Try.underlying59 rfl (by kernel_rfl) ?_)
                    | (at_builtin; show wpList _ _ _ ({ dst := some 65, op := _, type := _, pos := _, after := _, guard := _ } :: _) _ _; have HM6 := Lib.hid (HM5.out.below (W' := (w5.alloc (.cells x.vals.toArray 59))) ((Below.refl _ w5).alloc (Nat.le_refl _) _)); go_loud (refine its_app rfl _ _ rfl w.heap.size A2 no co (no + 1) E [x] rfl HM6.out.ow (some ⟨w5.heap.size, 0, none⟩) 1 1 rfl (rd_madeI x rfl rfl) rfl rfl (by omega) HM6.out.be.size ?_); intro A8 c8 wA HO8 HGA; rw [HEX.out] at HO8; have HM7 := Lib.hid (HM6.out.app HGA.out HO8.out)))
                  go_meet
                  exact ⟨A8, no + 1, c8, rfl, HM7, HX⟩
              case rest =>
                obtain ⟨A3, no3, co3, rfl, HM6, HEN3⟩ := hcut
                rename World => w6
                obtain ⟨i0, hi0, hz0, hz1, hz2⟩ := info_parts itemInfo
                have cs6 : w6.drew.cell? ⟨w1.heap.size, 0, none⟩ = some (.pointer (some ⟨q, 0, none⟩)) := cell_of_row w6 _ 0 _ _ (0, 0) (HM6.out.sb _ rfl)
                have cq6 : w6.drew.cell? ⟨q, 0, none⟩ = some (.slice Aq (r.length + 1) cq) := HM6.out.qb.cell
                have fq6 : w6.drew.frozen? ⟨q, 0, none⟩ = false := HM6.out.qb.free
                have hcq := HM6.out.qc
                have HN := Lib.hid ((HM6.out.below ((Below.refl _ w6).drew)).step)
                have HRL := Lib.hid (show (⟨q, at_, x, r⟩ : Qs).r = r from rfl)
                have hsl : ∀ W, (Instr.slice 32 (.slice Aq (r.length + 1) cq) (some (.int .i64 1)) none none).run Try.prog W = .ok (.slice (tailA Aq cq 1 7) r.length (cq - 1)) W := fun W => run_tail (P := Try.prog) (t := 32) (e := 59) (size := 7) Try.underlying32 hi0 hz1 Aq (r.length + 1) cq 1 (by omega) W
                obtain ⟨rl, hrl⟩ : ∃ rl, r.length = rl := ⟨_, rfl⟩
                have HRN := Lib.hid hrl
                change Hid (GrpN w (w6.drew.setCell ⟨q, 0, none⟩ (.slice (tailA Aq cq 1 7) r.length (cq - 1))) Hb g k c ((popL ltQ H).take k) A3 no3 co3 (addE E x) ⟨q, at_, x, r⟩ (tailA Aq cq 1 7) (cq - 1) w1.heap.size) at HN
                rw [hrl] at cq6 hsl HN
                have HC : w6.drew.cell? ⟨w1.heap.size, 0, none⟩ = some (.pointer (some ⟨q, 0, none⟩)) ∧ w6.drew.cell? ⟨q, 0, none⟩ = some (.slice Aq (rl + 1) cq) := ⟨cs6, cq6⟩
                clear hi0 hz0 hz1 hz2 hrl hcq
                go_upto_region 16 with fail
                refine region_wz (fun W => W.cell? ⟨w1.heap.size, 0, none⟩ = some (.pointer (some ⟨q, 0, none⟩)) ∧ W.cell? ⟨q, 0, none⟩ = some (.slice Aq (rl + 1) cq)) (some 10) (by kernel_rfl) ?_
                apply WZ.take (i := 0) (some 66) rfl rfl (by kernel_rfl) (by kernel_rfl) (by kernel_rfl) (calm_panic _) (by kernel_rfl)
                case hy => (refine .inl ⟨by kernel_rfl, fun W hC => ?_⟩; (try dsimp only at hC); go_simp; (try simp only [hsl]); rfl)
                case hC => exact HC
                case ha => (simp only [Act.put, List.setIfInBounds_toArray, List.set_cons_zero, List.set_cons_succ]; rfl)
                apply WZ.take (i := 1) (some 67) rfl rfl (by kernel_rfl) (by kernel_rfl) (by kernel_rfl) (calm_panic _) (by kernel_rfl)
                case hy => (refine .inl ⟨by kernel_rfl, fun W hC => ?_⟩; (try dsimp only at hC); go_simp; (try simp only [hsl]); rfl)
                case hC => exact HC
                case ha => (simp only [Act.put, List.setIfInBounds_toArray, List.set_cons_zero, List.set_cons_succ]; rfl)
                apply WZ.take (i := 2) (some 68) rfl rfl (by kernel_rfl) (by kernel_rfl) (by kernel_rfl) (calm_panic _) (by kernel_rfl)
                case hy => (refine .inl ⟨by kernel_rfl, fun W hC => ?_⟩; (try dsimp only at hC); go_simp; (try simp only [hsl]); rfl)
                case hC => exact HC
                case ha => (simp only [Act.put, List.setIfInBounds_toArray, List.set_cons_zero, List.set_cons_succ]; rfl)
                apply WZ.take (i := 3) (some 69) rfl rfl (by kernel_rfl) (by kernel_rfl) (by kernel_rfl) (calm_panic _) (by kernel_rfl)
                case hy => (refine .inl ⟨by kernel_rfl, fun W hC => ?_⟩; (try dsimp only at hC); go_simp; (try simp only [hsl]); rfl)
                case hC => exact HC
                case ha => (simp only [Act.put, List.setIfInBounds_toArray, List.set_cons_zero, List.set_cons_succ]; rfl)
                apply WZ.take (i := 4) (some 70) rfl rfl (by kernel_rfl) (by kernel_rfl) (by kernel_rfl) (calm_panic _) (by kernel_rfl)
                case hy => (refine .inl ⟨by kernel_rfl, fun W hC => ?_⟩; (try dsimp only at hC); go_simp; (try simp only [hsl]); rfl)
                case hC => exact HC
                case ha => (simp only [Act.put, List.setIfInBounds_toArray, List.set_cons_zero, List.set_cons_succ]; rfl)
                apply WZ.take (i := 5) (some 71) rfl rfl (by kernel_rfl) (by kernel_rfl) (by kernel_rfl) (calm_panic _) (by kernel_rfl)
                case hy => (refine .inl ⟨by kernel_rfl, fun W hC => ?_⟩; (try dsimp only at hC); go_simp; (try simp only [hsl]); rfl)
                case hC => exact HC
                case ha => (simp only [Act.put, List.setIfInBounds_toArray, List.set_cons_zero, List.set_cons_succ]; rfl)
                apply WZ.take (i := 6) (some 72) rfl rfl (by kernel_rfl) (by kernel_rfl) (by kernel_rfl) (calm_panic _) (by kernel_rfl)
                case hy => (refine .inl ⟨by kernel_rfl, fun W hC => ?_⟩; (try dsimp only at hC); go_simp; (try simp only [hsl]); rfl)
                case hC => exact HC
                case ha => (simp only [Act.put, List.setIfInBounds_toArray, List.set_cons_zero, List.set_cons_succ]; rfl)
                apply WZ.take (i := 7) (some 73) rfl rfl (by kernel_rfl) (by kernel_rfl) (by kernel_rfl) (calm_panic _) (by kernel_rfl)
                case hy => (refine .inl ⟨by kernel_rfl, fun W hC => ?_⟩; (try dsimp only at hC); go_simp; (try simp only [hsl]); rfl)
                case hC => exact HC
                case ha => (simp only [Act.put, List.setIfInBounds_toArray, List.set_cons_zero, List.set_cons_succ]; rfl)
                apply WZ.takeF (i := 8) (some 74) rfl rfl (by kernel_rfl) (by kernel_rfl) (by kernel_rfl) (calm_panic _) (by kernel_rfl)
                case hy => (refine .inl ⟨by kernel_rfl, fun W hC => ?_⟩; (try dsimp only at hC); go_simp; (try simp only [hsl]); rfl)
                case hC => exact HC
                case ha => (simp only [Act.put, List.setIfInBounds_toArray, List.set_cons_zero, List.set_cons_succ]; rfl)
                apply WZ.take (i := 9) (some 75) rfl rfl (by kernel_rfl) (by kernel_rfl) (by kernel_rfl) (calm_panic _) (by kernel_rfl)
                case hy => (refine .inl ⟨by kernel_rfl, fun W hC => ?_⟩; (try dsimp only at hC); go_simp; (try simp only [hsl]); rfl)
                case hC => exact HC
                case ha => (simp only [Act.put, List.setIfInBounds_toArray, List.set_cons_zero, List.set_cons_succ]; rfl)
                -- 10
                refine WZ.last (i := 10) rfl (by kernel_rfl) (by kernel_rfl) ?_
                conv => arg 4; arg 1; whnf
                go_wp2_with fail
                refine WZ.done (by kernel_rfl) ?_ _
                simp only [Calm, Exit.then]
                change Hid (GrpN w (w6.setCell ⟨q, 0, none⟩ (.slice (tailA Aq cq 1 7) rl (cq - 1))).drew Hb g k c ((popL ltQ H).take k) A3 no3 co3 (addE E x) ⟨q, at_, x, r⟩ (tailA Aq cq 1 7) (cq - 1) w1.heap.size) at HN
                generalize (w6.setCell ⟨q, 0, none⟩ (.slice (tailA Aq cq 1 7) rl (cq - 1))).drew = w7 at HN ⊢
                have cs7 : w7.cell? ⟨w1.heap.size, 0, none⟩ = some (.pointer (some ⟨q, 0, none⟩)) := cell_of_row w7 _ 0 _ _ (0, 0) HN.out.sb
                have cq7 : w7.cell? ⟨q, 0, none⟩ = some (.slice (tailA Aq cq 1 7) rl (cq - 1)) := HRN.out ▸ HN.out.qb.cell
                clear HC cs6 cq6 fq6 hsl hno hbw
                cases r with
                | nil =>
                  have hr0 : rl = 0 := HRN.out.symm
                  have e0 : decide ((0 : Int) < (rl : Int)) = false := decide_eq_false (by omega)
                  have hr1 : ¬ 0 < rl := by omega
                  obtain ⟨O', R', h9, hm9⟩ := HG.out.nextN HS0.out rfl HN.out rfl HEN3.out
                  have HF := Lib.hid (show GST w Hb L (.slice A3 no3 co3) w7 (m - 1) from ⟨_, _, _, _, O', R', A3, no3, co3, _, rfl, Lib.hid h9⟩)
                  clear h9 hr0
                  go_wp2
                  refine ⟨⟨m - 1, HF.out⟩, ?_⟩
                  have h1 := leastN_le HF.out
                  have h2 := HM.out
                  show leastN (GST w Hb L (.slice A3 no3 co3) w7) < leastN (GST w Hb L (.slice A2 no co) w9)
                  omega
                | cons y t =>
                  have hr0 : rl = t.length + 1 := by rw [← HRN.out]; rfl
                  have e0 : decide ((0 : Int) < (rl : Int)) = true := decide_eq_true (by omega)
                  have hr1 : 0 < rl := by omega
                  have HPU := Lib.hid (heapPush_any w.heap.size Hb g k c ((popL ltQ H).take k) ⟨q, at_, y, t⟩ w7 HN.out.st (HN.out.inn rfl) (by omega))
                  have HLD := Lib.hid (show w7.rangeAt w1.heap.size 0 [.pointer (some ⟨q, 0, none⟩), .int .i64 at_] from SrcBox.range (s := ⟨q, at_, x, y :: t⟩) HN.out.sb)
                  clear hr0
                  go_wp2_with (first
                    | (show wpList _ _ _ ({ dst := some 85, op := Op.load _ _, type := _, pos := _, after := _, guard := _ } :: _) _ _; refine wpList_load_mid rfl 78 (.tmp 6) rfl w1.heap.size 0 rfl [.pointer (some ⟨q, 0, none⟩), .int .i64 at_] _ HLD.out Try.underlying78 rfl (by kernel_rfl) ?_)
                    | (go_at_call 32; refine HPU.out.mono ?_; rintro e w8 ⟨rfl, g', c', h2, hk2, -⟩; obtain ⟨O', R', h9, hm9⟩ := HG.out.nextS HS0.out rfl HN.out rfl HEN3.out h2 hk2; have HF := Lib.hid (show GST w Hb L (.slice A3 no3 co3) w8 (m - 1) from ⟨_, _, _, _, O', R', A3, no3, co3, _, rfl, Lib.hid h9⟩); clear h9 h2 hk2))
                  refine ⟨⟨m - 1, HF.out⟩, ?_⟩
                  have h1 := leastN_le HF.out
                  have h2 := HM.out
                  show leastN (GST w Hb L (.slice A3 no3 co3) w8) < leastN (GST w Hb L (.slice A2 no co) w9)
                  omega
end Go.Proofs.Ytflppcgonbjnmaa
