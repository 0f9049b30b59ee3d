/-
  The walk of view.read. Conditions: cells of one column, in order.
-/
import Derived.Test.YtoligmmjmghgnaaReadPlain
import Derived.Test.YtoligmmjmghgnaaAppCell
import Derived.Deep.DeepCutAuto
import Derived.Deep.CutBlock
namespace Go.Proofs.Ytoligmmjmghgnaa
open Go.RowKit
attribute [local go_sem ↓] Go.wp_at_zero Go.wp_at_succ

/-- the variable last: which one it points at -/
def lastV (b o : Nat) : Option Nat → Value
  | none => .pointer none
  | some p => .pointer (some ⟨b, o + p * 6, none⟩)
def LastOk (G : List Cl) (i : Nat) (po : Option Nat) : Prop := match po with
  | none => i = 0
  | some p => ∃ h : p < G.length, tsAt G i = some G[p].ts
theorem LastOk.succ {G : List Cl} {i : Nat} (h : i < G.length) : LastOk G (i + 1) (some i) := ⟨h, tsAt_succ h⟩
theorem LastOk.keep {G : List Cl} {i p : Nat} (h : LastOk G i (some p)) (hi : i < G.length) (ht : tsAt G i = some G[i].ts) : LastOk G (i + 1) (some p) := by
  obtain ⟨h1, h2⟩ := h
  exact ⟨h1, by rw [tsAt_succ hi, ← ht, h2]⟩
set_option maxRecDepth 10000 in
set_option maxHeartbeats 8000000 in
theorem read_any (b o c n : Nat) (G : List Cl) (w : World) (hl : Rd w w.heap.size (some ⟨b, o, none⟩) (cls G)) (hG : Grp G) (hn : G.length = n) (hcap : n ≤ c) (hlen : n ≤ 100000) :
    Calls Try.prog 18 #[.slice (some ⟨b, o, none⟩) n c] w fun e w' => ∃ (A' : Option Addr) (n' c' : Nat), e = .returned (.slice A' n' c') ∧ n' ≤ n ∧ OwnC w' w.heap.size A' n' c' (G.filter (seen G)) ∧ Below w.heap.size w w' := by
  obtain ⟨i0, hi0, hz0, hz1, hz2⟩ := info_parts cellInfo
  have HL := Lib.hid hl
  have HGR := Lib.hid hG
  have HN := Lib.hid hn
  have hsl := fun (i : Nat) (h : i ≤ n) W => run_tail (P := Try.prog) (t := 26) (e := 29) (size := 6) Try.underlying26 hi0 hz1 (some ⟨b, o, none⟩) n c i (by omega) W
  have HSL := Lib.hid hsl
  clear hl hG hn hsl
  go_enter Try.func18, Try.ntmps18
  go_wp2
  go_loopw [2, 3, 4, 12] (fun v2 v3 v4 vi wr => ∃ (i n2 gn : Nat) (A2 : Option Addr) (c2 : Nat) (po : Option Nat), v2 = .slice A2 n2 c2 ∧ v3 = .int .u64 (gn : Int) ∧ v4 = lastV b o po ∧ vi = .int .i64 (i : Int) ∧ i ≤ n ∧ n2 ≤ i ∧ Hid (OwnC wr w.heap.size A2 n2 c2 ((G.take i).filter (seen G))) ∧ Hid (GoneAt G (tsAt G i) gn) ∧ Hid (LastOk G i po) ∧ Hid (Below w.heap.size w wr)) (fun _ _ _ vi _ => n - (intOf vi).toNat)
  case atStart => exact ⟨0, 0, 0, none, 0, none, rfl, rfl, rfl, rfl, Nat.zero_le _, Nat.le_refl _, Lib.hid OwnC.nil, Lib.hid (GoneAt.zero G), Lib.hid rfl, Lib.hid (Below.refl _ _)⟩
  case round =>
    obtain ⟨i, n2, gn, A2, c2, po, rfl, rfl, rfl, rfl, hi, hn2, HO, HGO, HLO, HB⟩ := hrel
    rename World => wr
    by_cases hlt : i < n
    · have e1 : decide ((i : Int) < (n : Int)) = true := decide_eq_true (by omega)
      have k1 : (0 : Int) ≤ (i : Int) := by omega
      have k2 : (i : Int) < (n : Int) := by omega
      have hig : i < G.length := by rw [HN.out]; exact hlt
      obtain ⟨b', o', hA', hbl, hr⟩ := rd_elem (HL.out.below HB.out) hig
      obtain ⟨rfl, rfl⟩ : b = b' ∧ o = o' := by cases hA'; exact ⟨rfl, rfl⟩
      have hfn := filter_next (q := seen G) hig
      have HSE := Lib.hid (fun (g : Nat) h hg => seen_first (gone := g) HGR.out hig h hg)
      have hst := GoneAt.still HGO.out hig
      have hsn := seen_not HGR.out hig
      have hls := LastOk.succ hig
      have HIN := Lib.hid (InnSt.start HGO.out (Nat.le_of_lt hig))
      obtain ⟨x, hx⟩ : ∃ x, G[i] = x := ⟨_, rfl⟩
      rw [hx] at hr hfn hst hsn
      have HR := Lib.hid hr
      have HX := Lib.hid hx
      have HST := Lib.hid hst
      have HSN := Lib.hid hsn
      have HLS := Lib.hid hls
      have HFN := Lib.hid hfn
      clear hr hx hst hsn hls hfn hA'
      by_cases hfirst : tsAt G i = some x.ts
      · -- one of that time stood ahead
        obtain ⟨p, rfl⟩ : ∃ p, po = some p := by
          cases po with
          | none =>
            have : i = 0 := HLO.out
            subst this
            cases hfirst
          | some p => exact ⟨p, rfl⟩
        obtain ⟨hpl, hpt⟩ := HLO.out
        have hts : G[p].ts = x.ts := by rw [hfirst] at hpt; injection hpt with h; exact h.symm
        obtain ⟨b'', o'', hA', -, hrp⟩ := rd_elem (HL.out.below HB.out) hpl
        obtain ⟨rfl, rfl⟩ : b = b'' ∧ o = o'' := by cases hA'; exact ⟨rfl, rfl⟩
        have hc2 : wr.cell? ⟨b, o + p * 6 + 2, none⟩ = some (.int .u64 (x.ts : Int)) := by rw [← hts]; exact hrp 2 _ rfl
        have HFX := Lib.hid (show (G.take (i + 1)).filter (seen G) = (G.take i).filter (seen G) by rw [HFN.out, HSN.out hfirst]; exact List.append_nil _)
        have HGX := Lib.hid (HST.out hfirst)
        have HLX := Lib.hid (LastOk.keep HLO.out hig (by rw [HX.out]; exact hfirst))
        have HC2 := Lib.hid hc2
        clear hrp hA' hts hpt hc2 hfirst
        unfold lastV
        go_wp2_with (first | (show wpList _ _ _ ({ dst := some 16, op := Op.load _ _, type := _, pos := _, after := _, guard := _ } :: _) _ _; refine wpList_load_mid rfl 29 (.tmp 15) rfl b (o + i * 6) rfl x.vals _ HR.out Try.underlying29 rfl (by kernel_rfl) ?_) | (show wpList _ _ _ ({ dst := none, op := Op.store _ (Operand.tmp 6) _, type := _, pos := _, after := _, guard := _ } :: _) _ _; refine wpList_store_mid rfl 29 (.tmp 6) (.tmp 16) rfl wr.heap.size 0 x.vals.toArray rfl rfl (QBox.there_made _ _ _ _ _ _ _ _) (by kernel_rfl) (all_oneCell_toArray (Cl.one x)) ?_; refine QBox.madeW 29 wr _ _ _ _ _ _ x ?_; intro w6 HG6 HB6))
        obtain ⟨q0, q1, q2, q3, q4, q5⟩ := HG6.out.cells
        have hcp := (HB6.out.cell (p := ⟨b, o + p * 6 + 2, none⟩) (Nat.lt_of_lt_of_le hbl HB.out.size)).trans HC2.out
        have HC : w6.drew.cell? ⟨b, o + p * 6 + 2, none⟩ = some (.int .u64 (x.ts : Int)) ∧ w6.drew.cell? ⟨wr.heap.size, 2, none⟩ = some (.int .u64 (x.ts : Int)) := ⟨hcp, q2⟩
        clear hcp
        refine region_wz (fun W => W.cell? ⟨b, o + p * 6 + 2, none⟩ = some (.int .u64 (x.ts : Int)) ∧ W.cell? ⟨wr.heap.size, 2, none⟩ = some (.int .u64 (x.ts : Int))) none (by kernel_rfl) ?_
        apply WZ.take (i := 0) (some 17) rfl rfl (by kernel_rfl) (by kernel_rfl) (by kernel_rfl) (calm_panic _) (by kernel_rfl)
        case hy => (refine .inl ⟨by kernel_rfl, fun W hC => ?_⟩; (try dsimp only at hC); go_simp; (try simp only [bne_self_eq_false]); rfl)
        case hC => exact HC
        case ha => (simp only [Act.put, List.setIfInBounds_toArray, List.set_cons_zero, List.set_cons_succ]; rfl)
        apply WZ.take (i := 1) (some 18) rfl rfl (by kernel_rfl) (by kernel_rfl) (by kernel_rfl) (calm_panic _) (by kernel_rfl)
        case hy => (refine .inl ⟨by kernel_rfl, fun W hC => ?_⟩; (try dsimp only at hC); go_simp; (try simp only [bne_self_eq_false]); rfl)
        case hC => exact HC
        case ha => (simp only [Act.put, List.setIfInBounds_toArray, List.set_cons_zero, List.set_cons_succ]; rfl)
        apply WZ.take (i := 2) (some 19) rfl rfl (by kernel_rfl) (by kernel_rfl) (by kernel_rfl) (calm_panic _) (by kernel_rfl)
        case hy => (refine .inl ⟨by kernel_rfl, fun W hC => ?_⟩; (try dsimp only at hC); go_simp; (try simp only [bne_self_eq_false]); rfl)
        case hC => exact HC
        case ha => (simp only [Act.put, List.setIfInBounds_toArray, List.set_cons_zero, List.set_cons_succ]; rfl)
        apply WZ.take (i := 3) (some 20) rfl rfl (by kernel_rfl) (by kernel_rfl) (by kernel_rfl) (calm_panic _) (by kernel_rfl)
        case hy => (refine .inl ⟨by kernel_rfl, fun W hC => ?_⟩; (try dsimp only at hC); go_simp; (try simp only [bne_self_eq_false]); rfl)
        case hC => exact HC
        case ha => (simp only [Act.put, List.setIfInBounds_toArray, List.set_cons_zero, List.set_cons_succ]; rfl)
        apply WZ.take (i := 4) (some 21) rfl rfl (by kernel_rfl) (by kernel_rfl) (by kernel_rfl) (calm_panic _) (by kernel_rfl)
        case hy => (refine .inl ⟨by kernel_rfl, fun W hC => ?_⟩; (try dsimp only at hC); go_simp; (try simp only [bne_self_eq_false]); rfl)
        case hC => exact HC
        case ha => (simp only [Act.put, List.setIfInBounds_toArray, List.set_cons_zero, List.set_cons_succ]; rfl)
        apply WZ.take (i := 5) (some 22) rfl rfl (by kernel_rfl) (by kernel_rfl) (by kernel_rfl) (calm_panic _) (by kernel_rfl)
        case hy => (refine .inl ⟨by kernel_rfl, fun W hC => ?_⟩; (try dsimp only at hC); go_simp; (try simp only [bne_self_eq_false]); rfl)
        case hC => exact HC
        case ha => (simp only [Act.put, List.setIfInBounds_toArray, List.set_cons_zero, List.set_cons_succ]; rfl)
        apply WZ.take (i := 6) (some 23) rfl rfl (by kernel_rfl) (by kernel_rfl) (by kernel_rfl) (calm_panic _) (by kernel_rfl)
        case hy => (refine .inl ⟨by kernel_rfl, fun W hC => ?_⟩; (try dsimp only at hC); go_simp; (try simp only [bne_self_eq_false]); rfl)
        case hC => exact HC
        case ha => (simp only [Act.put, List.setIfInBounds_toArray, List.set_cons_zero, List.set_cons_succ]; rfl)
        apply WZ.take (i := 7) (some 24) rfl rfl (by kernel_rfl) (by kernel_rfl) (by kernel_rfl) (calm_panic _) (by kernel_rfl)
        case hy => (refine .inl ⟨by kernel_rfl, fun W hC => ?_⟩; (try dsimp only at hC); go_simp; (try simp only [bne_self_eq_false]); rfl)
        case hC => exact HC
        case ha => (simp only [Act.put, List.setIfInBounds_toArray, List.set_cons_zero, List.set_cons_succ]; rfl)
        apply WZ.take (i := 8) (some 25) rfl rfl (by kernel_rfl) (by kernel_rfl) (by kernel_rfl) (calm_panic _) (by kernel_rfl)
        case hy => (refine .inl ⟨by kernel_rfl, fun W hC => ?_⟩; (try dsimp only at hC); go_simp; (try simp only [bne_self_eq_false]); rfl)
        case hC => exact HC
        case ha => (simp only [Act.put, List.setIfInBounds_toArray, List.set_cons_zero, List.set_cons_succ]; rfl)
        apply WZ.take (i := 9) (some 26) rfl rfl (by kernel_rfl) (by kernel_rfl) (by kernel_rfl) (calm_panic _) (by kernel_rfl)
        case hy => (refine .inl ⟨by kernel_rfl, fun W hC => ?_⟩; (try dsimp only at hC); go_simp; (try simp only [bne_self_eq_false]); rfl)
        case hC => exact HC
        case ha => (simp only [Act.put, List.setIfInBounds_toArray, List.set_cons_zero, List.set_cons_succ]; rfl)
        apply WZ.take (i := 10) (some 27) rfl rfl (by kernel_rfl) (by kernel_rfl) (by kernel_rfl) (calm_panic _) (by kernel_rfl)
        case hy => (refine .inl ⟨by kernel_rfl, fun W hC => ?_⟩; (try dsimp only at hC); go_simp; (try simp only [bne_self_eq_false]); rfl)
        case hC => exact HC
        case ha => (simp only [Act.put, List.setIfInBounds_toArray, List.set_cons_zero, List.set_cons_succ]; rfl)
        apply WZ.take (i := 11) (some 7) rfl rfl (by kernel_rfl) (by kernel_rfl) (by kernel_rfl) (calm_panic _) (by kernel_rfl)
        case hy => (refine .inl ⟨by kernel_rfl, fun W hC => ?_⟩; (try dsimp only at hC); go_simp; (try simp only [bne_self_eq_false]); rfl)
        case hC => exact HC
        case ha => (simp only [Act.put, List.setIfInBounds_toArray, List.set_cons_zero, List.set_cons_succ]; rfl)
        refine WZ.done (by kernel_rfl) ?_ _
        simp only [Calm, Exit.then]
        clear HC
        go_wp2
        exact ⟨⟨i + 1, n2, gn, A2, c2, some p, rfl, rfl, rfl, by first | rfl | go_num, by omega, by omega, Lib.hid (by rw [HFX.out]; exact OwnC.below HO.out (HB6.out.drew)), HGX, HLX, Lib.hid (HB.out.trans (HB6.out.drew.mono HB.out.size))⟩, by simp [intOf]; omega⟩
      · have HNF := Lib.hid (show tsAt G i ≠ some G[i].ts by rw [HX.out]; exact hfirst)
        go_upto_region 6 with (first | (show wpList _ _ _ ({ dst := some 16, op := Op.load _ _, type := _, pos := _, after := _, guard := _ } :: _) _ _; refine wpList_load_mid rfl 29 (.tmp 15) rfl b (o + i * 6) rfl x.vals _ HR.out Try.underlying29 rfl (by kernel_rfl) ?_) | (show wpList _ _ _ ({ dst := none, op := Op.store _ (Operand.tmp 6) _, type := _, pos := _, after := _, guard := _ } :: _) _ _; refine wpList_store_mid rfl 29 (.tmp 6) (.tmp 16) rfl wr.heap.size 0 x.vals.toArray rfl rfl (QBox.there_made _ _ _ _ _ _ _ _) (by kernel_rfl) (all_oneCell_toArray (Cl.one x)) ?_; refine QBox.madeW 29 wr _ _ _ _ _ _ x ?_; intro w6 HG6 HB6))
        show Code.wp _ _ _ ({ tmps := _, defers := [] } : Act) _
        go_cut [7] (fun s7 wx => s7 = .bool true ∧ wx = w6.drew)
        case first =>
          obtain ⟨q0, q1, q2, q3, q4, q5⟩ := HG6.out.cells
          cases po with
          | none =>
            unfold lastV
            have HC : w6.drew.cell? ⟨wr.heap.size, 2, none⟩ = some (.int .u64 (x.ts : Int)) := q2
            refine region_wz (fun W => W.cell? ⟨wr.heap.size, 2, none⟩ = some (.int .u64 (x.ts : Int))) none (by kernel_rfl) ?_
            apply WZ.take (i := 0) (some 17) rfl rfl (by kernel_rfl) (by kernel_rfl) (by kernel_rfl) (calm_panic _) (by kernel_rfl)
            case hy => (refine .inl ⟨by kernel_rfl, fun W hC => ?_⟩; (try dsimp only at hC); go_simp; rfl)
            case hC => exact HC
            case ha => (simp only [Act.put, List.setIfInBounds_toArray, List.set_cons_zero, List.set_cons_succ]; rfl)
            apply WZ.take (i := 1) (some 18) rfl rfl (by kernel_rfl) (by kernel_rfl) (by kernel_rfl) (calm_panic _) (by kernel_rfl)
            case hy => (refine .inl ⟨by kernel_rfl, fun W hC => ?_⟩; (try dsimp only at hC); go_simp; rfl)
            case hC => exact HC
            case ha => (simp only [Act.put, List.setIfInBounds_toArray, List.set_cons_zero, List.set_cons_succ]; rfl)
            apply WZ.take (i := 2) (some 19) rfl rfl (by kernel_rfl) (by kernel_rfl) (by kernel_rfl) (calm_panic _) (by kernel_rfl)
            case hy => (refine .inl ⟨by kernel_rfl, fun W hC => ?_⟩; (try dsimp only at hC); go_simp; rfl)
            case hC => exact HC
            case ha => (simp only [Act.put, List.setIfInBounds_toArray, List.set_cons_zero, List.set_cons_succ]; rfl)
            apply WZ.take (i := 3) (some 20) rfl rfl (by kernel_rfl) (by kernel_rfl) (by kernel_rfl) (calm_panic _) (by kernel_rfl)
            case hy => exact .inr ⟨by kernel_rfl, rfl⟩
            case hC => exact HC
            case ha => (simp only [Act.put, List.setIfInBounds_toArray, List.set_cons_zero, List.set_cons_succ]; rfl)
            apply WZ.take (i := 4) (some 21) rfl rfl (by kernel_rfl) (by kernel_rfl) (by kernel_rfl) (calm_panic _) (by kernel_rfl)
            case hy => exact .inr ⟨by kernel_rfl, rfl⟩
            case hC => exact HC
            case ha => (simp only [Act.put, List.setIfInBounds_toArray, List.set_cons_zero, List.set_cons_succ]; rfl)
            apply WZ.take (i := 5) (some 22) rfl rfl (by kernel_rfl) (by kernel_rfl) (by kernel_rfl) (calm_panic _) (by kernel_rfl)
            case hy => exact .inr ⟨by kernel_rfl, rfl⟩
            case hC => exact HC
            case ha => (simp only [Act.put, List.setIfInBounds_toArray, List.set_cons_zero, List.set_cons_succ]; rfl)
            apply WZ.take (i := 6) (some 23) rfl rfl (by kernel_rfl) (by kernel_rfl) (by kernel_rfl) (calm_panic _) (by kernel_rfl)
            case hy => exact .inr ⟨by kernel_rfl, rfl⟩
            case hC => exact HC
            case ha => (simp only [Act.put, List.setIfInBounds_toArray, List.set_cons_zero, List.set_cons_succ]; rfl)
            apply WZ.take (i := 7) (some 24) rfl rfl (by kernel_rfl) (by kernel_rfl) (by kernel_rfl) (calm_panic _) (by kernel_rfl)
            case hy => exact .inr ⟨by kernel_rfl, rfl⟩
            case hC => exact HC
            case ha => (simp only [Act.put, List.setIfInBounds_toArray, List.set_cons_zero, List.set_cons_succ]; rfl)
            apply WZ.take (i := 8) (some 25) rfl rfl (by kernel_rfl) (by kernel_rfl) (by kernel_rfl) (calm_panic _) (by kernel_rfl)
            case hy => exact .inr ⟨by kernel_rfl, rfl⟩
            case hC => exact HC
            case ha => (simp only [Act.put, List.setIfInBounds_toArray, List.set_cons_zero, List.set_cons_succ]; rfl)
            apply WZ.take (i := 9) (some 26) rfl rfl (by kernel_rfl) (by kernel_rfl) (by kernel_rfl) (calm_panic _) (by kernel_rfl)
            case hy => exact .inr ⟨by kernel_rfl, rfl⟩
            case hC => exact HC
            case ha => (simp only [Act.put, List.setIfInBounds_toArray, List.set_cons_zero, List.set_cons_succ]; rfl)
            apply WZ.take (i := 10) (some 27) rfl rfl (by kernel_rfl) (by kernel_rfl) (by kernel_rfl) (calm_panic _) (by kernel_rfl)
            case hy => (refine .inl ⟨by kernel_rfl, fun W hC => ?_⟩; (try dsimp only at hC); go_simp; rfl)
            case hC => exact HC
            case ha => (simp only [Act.put, List.setIfInBounds_toArray, List.set_cons_zero, List.set_cons_succ]; rfl)
            apply WZ.take (i := 11) (some 7) rfl rfl (by kernel_rfl) (by kernel_rfl) (by kernel_rfl) (calm_panic _) (by kernel_rfl)
            case hy => (refine .inl ⟨by kernel_rfl, fun W hC => ?_⟩; (try dsimp only at hC); go_simp; rfl)
            case hC => exact HC
            case ha => (simp only [Act.put, List.setIfInBounds_toArray, List.set_cons_zero, List.set_cons_succ]; rfl)
            refine WZ.done (by kernel_rfl) ?_ _
            simp only [Calm, Exit.then]
            clear HC
            go_wp2_with fail
            go_meet
            exact ⟨rfl, rfl⟩
          | some p =>
            obtain ⟨hpl, hpt⟩ := HLO.out
            obtain ⟨b'', o'', hA', -, hrp⟩ := rd_elem (HL.out.below HB.out) hpl
            obtain ⟨rfl, rfl⟩ : b = b'' ∧ o = o'' := by cases hA'; exact ⟨rfl, rfl⟩
            obtain ⟨tp, htp⟩ : ∃ tp, G[p].ts = tp := ⟨_, rfl⟩
            have hne : tp ≠ x.ts := fun e => hfirst (by rw [hpt, htp, e])
            have e3 : ((tp : Int) == (x.ts : Int)) = false := by rw [beq_eq_false_iff_ne]; omega
            have e4 : ((tp : Int) != (x.ts : Int)) = true := by rw [bne, e3]; rfl
            have e5 : (tp != x.ts) = true := by simpa using hne
            have hc2 : wr.cell? ⟨b, o + p * 6 + 2, none⟩ = some (.int .u64 (tp : Int)) := by rw [← htp]; exact hrp 2 _ rfl
            have hcp := (HB6.out.cell (p := ⟨b, o + p * 6 + 2, none⟩) (Nat.lt_of_lt_of_le hbl HB.out.size)).trans hc2
            have HC : w6.drew.cell? ⟨b, o + p * 6 + 2, none⟩ = some (.int .u64 (tp : Int)) ∧ w6.drew.cell? ⟨wr.heap.size, 2, none⟩ = some (.int .u64 (x.ts : Int)) := ⟨hcp, q2⟩
            clear hcp hc2 hrp hA' hpt htp hne hfirst
            unfold lastV
            refine region_wz (fun W => W.cell? ⟨b, o + p * 6 + 2, none⟩ = some (.int .u64 (tp : Int)) ∧ W.cell? ⟨wr.heap.size, 2, none⟩ = some (.int .u64 (x.ts : Int))) none (by kernel_rfl) ?_
            apply WZ.take (i := 0) (some 17) rfl rfl (by kernel_rfl) (by kernel_rfl) (by kernel_rfl) (calm_panic _) (by kernel_rfl)
            case hy => (refine .inl ⟨by kernel_rfl, fun W hC => ?_⟩; (try dsimp only at hC); go_simp; rfl)
            case hC => exact HC
            case ha => (simp only [Act.put, List.setIfInBounds_toArray, List.set_cons_zero, List.set_cons_succ]; rfl)
            apply WZ.take (i := 1) (some 18) rfl rfl (by kernel_rfl) (by kernel_rfl) (by kernel_rfl) (calm_panic _) (by kernel_rfl)
            case hy => (refine .inl ⟨by kernel_rfl, fun W hC => ?_⟩; (try dsimp only at hC); go_simp; rfl)
            case hC => exact HC
            case ha => (simp only [Act.put, List.setIfInBounds_toArray, List.set_cons_zero, List.set_cons_succ]; rfl)
            apply WZ.take (i := 2) (some 19) rfl rfl (by kernel_rfl) (by kernel_rfl) (by kernel_rfl) (calm_panic _) (by kernel_rfl)
            case hy => (refine .inl ⟨by kernel_rfl, fun W hC => ?_⟩; (try dsimp only at hC); go_simp; rfl)
            case hC => exact HC
            case ha => (simp only [Act.put, List.setIfInBounds_toArray, List.set_cons_zero, List.set_cons_succ]; rfl)
            apply WZ.take (i := 3) (some 20) rfl rfl (by kernel_rfl) (by kernel_rfl) (by kernel_rfl) (calm_panic _) (by kernel_rfl)
            case hy => (refine .inl ⟨by kernel_rfl, fun W hC => ?_⟩; (try dsimp only at hC); go_simp; rfl)
            case hC => exact HC
            case ha => (simp only [Act.put, List.setIfInBounds_toArray, List.set_cons_zero, List.set_cons_succ]; rfl)
            apply WZ.take (i := 4) (some 21) rfl rfl (by kernel_rfl) (by kernel_rfl) (by kernel_rfl) (calm_panic _) (by kernel_rfl)
            case hy => (refine .inl ⟨by kernel_rfl, fun W hC => ?_⟩; (try dsimp only at hC); go_simp; rfl)
            case hC => exact HC
            case ha => (simp only [Act.put, List.setIfInBounds_toArray, List.set_cons_zero, List.set_cons_succ]; rfl)
            apply WZ.take (i := 5) (some 22) rfl rfl (by kernel_rfl) (by kernel_rfl) (by kernel_rfl) (calm_panic _) (by kernel_rfl)
            case hy => (refine .inl ⟨by kernel_rfl, fun W hC => ?_⟩; (try dsimp only at hC); go_simp; rfl)
            case hC => exact HC
            case ha => (simp only [Act.put, List.setIfInBounds_toArray, List.set_cons_zero, List.set_cons_succ]; rfl)
            apply WZ.take (i := 6) (some 23) rfl rfl (by kernel_rfl) (by kernel_rfl) (by kernel_rfl) (calm_panic _) (by kernel_rfl)
            case hy => (refine .inl ⟨by kernel_rfl, fun W hC => ?_⟩; (try dsimp only at hC); go_simp; rfl)
            case hC => exact HC
            case ha => (simp only [Act.put, List.setIfInBounds_toArray, List.set_cons_zero, List.set_cons_succ]; rfl)
            apply WZ.take (i := 7) (some 24) rfl rfl (by kernel_rfl) (by kernel_rfl) (by kernel_rfl) (calm_panic _) (by kernel_rfl)
            case hy => (refine .inl ⟨by kernel_rfl, fun W hC => ?_⟩; (try dsimp only at hC); go_simp; rfl)
            case hC => exact HC
            case ha => (simp only [Act.put, List.setIfInBounds_toArray, List.set_cons_zero, List.set_cons_succ]; rfl)
            apply WZ.take (i := 8) (some 25) rfl rfl (by kernel_rfl) (by kernel_rfl) (by kernel_rfl) (calm_panic _) (by kernel_rfl)
            case hy => (refine .inl ⟨by kernel_rfl, fun W hC => ?_⟩; (try dsimp only at hC); go_simp; rfl)
            case hC => exact HC
            case ha => (simp only [Act.put, List.setIfInBounds_toArray, List.set_cons_zero, List.set_cons_succ]; rfl)
            apply WZ.take (i := 9) (some 26) rfl rfl (by kernel_rfl) (by kernel_rfl) (by kernel_rfl) (calm_panic _) (by kernel_rfl)
            case hy => (refine .inl ⟨by kernel_rfl, fun W hC => ?_⟩; (try dsimp only at hC); go_simp; rfl)
            case hC => exact HC
            case ha => (simp only [Act.put, List.setIfInBounds_toArray, List.set_cons_zero, List.set_cons_succ]; rfl)
            apply WZ.take (i := 10) (some 27) rfl rfl (by kernel_rfl) (by kernel_rfl) (by kernel_rfl) (calm_panic _) (by kernel_rfl)
            case hy => (refine .inl ⟨by kernel_rfl, fun W hC => ?_⟩; (try dsimp only at hC); go_simp; rfl)
            case hC => exact HC
            case ha => (simp only [Act.put, List.setIfInBounds_toArray, List.set_cons_zero, List.set_cons_succ]; rfl)
            apply WZ.take (i := 11) (some 7) rfl rfl (by kernel_rfl) (by kernel_rfl) (by kernel_rfl) (calm_panic _) (by kernel_rfl)
            case hy => (refine .inl ⟨by kernel_rfl, fun W hC => ?_⟩; (try dsimp only at hC); go_simp; rfl)
            case hC => exact HC
            case ha => (simp only [Act.put, List.setIfInBounds_toArray, List.set_cons_zero, List.set_cons_succ]; rfl)
            refine WZ.done (by kernel_rfl) ?_ _
            simp only [Calm, Exit.then]
            clear HC
            go_wp2_with fail
            go_meet
            exact ⟨rfl, rfl⟩
        case rest =>
          obtain ⟨rfl, rfl⟩ := hcut
          clear hfirst
          have hs1 := HSL.out i hi
          have htl : tailA (some ⟨b, o, none⟩) c i 6 = some ⟨b, o + i * 6, none⟩ := by
            unfold tailA
            rw [if_neg (by omega), Option.map_some, add_at]
          rw [htl] at hs1
          obtain ⟨nk, hnk⟩ : ∃ nk, n - i = nk := ⟨_, rfl⟩
          obtain ⟨ck, hck⟩ : ∃ ck, c - i = ck := ⟨_, rfl⟩
          rw [hnk, hck] at hs1
          have hkn : (i : Int) ≤ (n : Int) := by omega
          have HNK := Lib.hid hnk
          clear htl hnk hck
          have hi6 := Nat.lt_of_lt_of_le hbl HB.out.size
          have HB06 := Lib.hid (HB.out.trans (HB6.out.drew.mono HB.out.size))
          have HB67 := Lib.hid (HB6.out.drew)
          have HG60 := Lib.hid (show QBox 29 w6.drew wr.heap.size x from HG6.out)
          generalize w6.drew = w7 at HB06 HG60 HB67 ⊢
          have hwl := HB.out.size
          clear HB6 HG6
          go_upto_block 2 with fail
          (try show Code.wp _ _ _ ({ tmps := _, defers := [] } : Act) _)
          go_cut [3] (fun s3 wx => ∃ gf : Nat, s3 = .int .u64 (gf : Int) ∧ Hid (GoneAt G (tsAt G (i + 1)) gf) ∧ Hid (Below w7.heap.size w7 wx))
          case first =>
            go_wp2_with fail
            go_loopw [3, 36] (fun v3 vj wq => ∃ (j gj : Nat), v3 = .int .u64 (gj : Int) ∧ vj = .int .i64 (j : Int) ∧ j ≤ nk ∧ Hid (InnSt G (tsAt G i) i j gj) ∧ Hid (Below w7.heap.size w7 wq)) (fun _ vj _ => nk - (intOf vj).toNat)
            case atStart => exact ⟨0, gn, rfl, rfl, Nat.zero_le _, HIN, Lib.hid (Below.refl _ _)⟩
            case round =>
              obtain ⟨j, gj, rfl, rfl, hjn, HJ, HBJ⟩ := hrel
              rename World => wq
              have h9 := HNK.out
              by_cases hjk : j < nk
              · have f1 : decide ((j : Int) < (nk : Int)) = true := decide_eq_true (by omega)
                have f2 : (0 : Int) ≤ (j : Int) := by omega
                have f3 : (j : Int) < (nk : Int) := by omega
                have hij : i + j < G.length := by rw [HN.out]; omega
                have hBq := HB06.out.trans (HBJ.out.mono HB06.out.size)
                obtain ⟨b'', o'', hA', -, hry⟩ := rd_elem (HL.out.below hBq) hij
                obtain ⟨rfl, rfl⟩ : b = b'' ∧ o = o'' := by cases hA'; exact ⟨rfl, rfl⟩
                rw [show o + (i + j) * 6 = o + i * 6 + j * 6 by rw [Nat.add_mul, Nat.add_assoc]] at hry
                have HNX := Lib.hid (fun (g' : Nat) ht hg => InnSt.next (g' := g') HJ.out hij ht hg)
                have HDN := Lib.hid (fun (h0 : 0 < j) he => InnSt.done HGR.out HJ.out hig h0 he)
                have hj0 : (G[i + j]'hij).ts ≠ (G[i]'hig).ts → 0 < j := fun h => by
                  rcases Nat.eq_zero_or_pos j with e | e
                  · subst e; exact absurd rfl h
                  · exact e
                have HJ0 := Lib.hid hj0
                obtain ⟨y, hy⟩ : ∃ y, G[i + j]'hij = y := ⟨_, rfl⟩
                rw [hy] at hry
                have HRY := Lib.hid hry
                have HY := Lib.hid hy
                clear hry hy hA' hj0
                have hgq := Nat.lt_of_lt_of_le HG60.out.lt HBJ.out.size
                have HG6q := Lib.hid (HG60.out.below HBJ.out HG60.out.lt)
                by_cases hts : y.ts = x.ts
                · have t1 : ((y.ts : Int) == (x.ts : Int)) = true := by rw [beq_iff_eq]; omega
                  have t2 : ((y.ts : Int) != (x.ts : Int)) = false := by rw [bne, t1]; rfl
                  have t3 : (y.ts != x.ts) = false := by simp [hts]
                  have HT := Lib.hid (show (G[i + j]'hij).ts = (G[i]'hig).ts by rw [HY.out, HX.out]; exact hts)
                  clear hts
                  cases hd : y.del with
                  | true =>
                    have hmx : (if (gj : Int) < (y.seq : Int) then (y.seq : Int) else (gj : Int)) = ((max gj y.seq : Nat) : Int) := by split <;> omega
                    have HF := Lib.hid (HNX.out (max gj y.seq) HT.out (by rw [HY.out, hd]; rfl))
                    go_wp2_with (first
                      | (show wpList _ _ _ ({ dst := some 39, op := Op.load _ _, type := _, pos := _, after := _, guard := _ } :: _) _ _; refine wpList_load_mid rfl 29 (.tmp 38) rfl b (o + i * 6 + j * 6) rfl y.vals _ HRY.out Try.underlying29 rfl (by kernel_rfl) ?_)
                      | (show wpList _ _ _ ({ dst := none, op := Op.store _ (Operand.tmp 9) _, type := _, pos := _, after := _, guard := _ } :: _) _ _; refine wpList_store_mid rfl 29 (.tmp 9) (.tmp 39) rfl wq.heap.size 0 y.vals.toArray rfl rfl (QBox.there_made _ _ _ _ _ _ _ _) (by kernel_rfl) (all_oneCell_toArray (Cl.one y)) ?_; refine QBox.madeW 29 wq _ _ _ _ _ _ y ?_; intro w8 HG8 HB8; obtain ⟨q0, q1, q2, q3, q4, q5⟩ := HG8.out.cells; obtain ⟨p0, p1, p2, p3, p4, p5⟩ := (HG6q.out.below HB8.out HG6q.out.lt).cells; (try rw [hd] at q4)))
                    exact ⟨⟨j + 1, max gj y.seq, by first | rfl | (congr 1; split <;> omega), by first | rfl | go_num, by omega, HF, Lib.hid (HBJ.out.trans (HB8.out.mono HBJ.out.size))⟩, by simp [intOf]; omega⟩
                  | false =>
                    have HF := Lib.hid (HNX.out gj HT.out (by rw [HY.out, hd]; rfl))
                    go_wp2_with (first
                      | (show wpList _ _ _ ({ dst := some 39, op := Op.load _ _, type := _, pos := _, after := _, guard := _ } :: _) _ _; refine wpList_load_mid rfl 29 (.tmp 38) rfl b (o + i * 6 + j * 6) rfl y.vals _ HRY.out Try.underlying29 rfl (by kernel_rfl) ?_)
                      | (show wpList _ _ _ ({ dst := none, op := Op.store _ (Operand.tmp 9) _, type := _, pos := _, after := _, guard := _ } :: _) _ _; refine wpList_store_mid rfl 29 (.tmp 9) (.tmp 39) rfl wq.heap.size 0 y.vals.toArray rfl rfl (QBox.there_made _ _ _ _ _ _ _ _) (by kernel_rfl) (all_oneCell_toArray (Cl.one y)) ?_; refine QBox.madeW 29 wq _ _ _ _ _ _ y ?_; intro w8 HG8 HB8; obtain ⟨q0, q1, q2, q3, q4, q5⟩ := HG8.out.cells; obtain ⟨p0, p1, p2, p3, p4, p5⟩ := (HG6q.out.below HB8.out HG6q.out.lt).cells; (try rw [hd] at q4)))
                    exact ⟨⟨j + 1, gj, rfl, by first | rfl | go_num, by omega, HF, Lib.hid (HBJ.out.trans (HB8.out.mono HBJ.out.size))⟩, by simp [intOf]; omega⟩
                · have t1 : ((y.ts : Int) == (x.ts : Int)) = false := by rw [beq_eq_false_iff_ne]; omega
                  have t2 : ((y.ts : Int) != (x.ts : Int)) = true := by rw [bne, t1]; rfl
                  have t3 : (y.ts != x.ts) = true := by simpa using hts
                  have HT := Lib.hid (show (G[i + j]'hij).ts ≠ (G[i]'hig).ts by rw [HY.out, HX.out]; exact hts)
                  have HF := Lib.hid (HDN.out (HJ0.out HT.out) (fun _ => HT.out))
                  clear hts
                  go_wp2_with (first
                    | (show wpList _ _ _ ({ dst := some 39, op := Op.load _ _, type := _, pos := _, after := _, guard := _ } :: _) _ _; refine wpList_load_mid rfl 29 (.tmp 38) rfl b (o + i * 6 + j * 6) rfl y.vals _ HRY.out Try.underlying29 rfl (by kernel_rfl) ?_)
                    | (show wpList _ _ _ ({ dst := none, op := Op.store _ (Operand.tmp 9) _, type := _, pos := _, after := _, guard := _ } :: _) _ _; refine wpList_store_mid rfl 29 (.tmp 9) (.tmp 39) rfl wq.heap.size 0 y.vals.toArray rfl rfl (QBox.there_made _ _ _ _ _ _ _ _) (by kernel_rfl) (all_oneCell_toArray (Cl.one y)) ?_; refine QBox.madeW 29 wq _ _ _ _ _ _ y ?_; intro w8 HG8 HB8; obtain ⟨q0, q1, q2, q3, q4, q5⟩ := HG8.out.cells; obtain ⟨p0, p1, p2, p3, p4, p5⟩ := (HG6q.out.below HB8.out HG6q.out.lt).cells))
                  go_meet
                  exact ⟨gj, rfl, HF, Lib.hid (HBJ.out.trans (HB8.out.mono HBJ.out.size))⟩
              · have f1 : decide ((j : Int) < (nk : Int)) = false := decide_eq_false (by omega)
                have HF := Lib.hid (InnSt.done HGR.out HJ.out hig (by omega) (fun h => absurd h (by rw [HN.out]; omega)))
                go_wp2
                go_meet
                exact ⟨gj, rfl, HF, HBJ⟩
          case rest =>
            obtain ⟨gf, rfl, HGF, HB8⟩ := hcut
            rename World => w9
            have hse := HSE.out gf HNF.out HGF.out
            rw [HX.out] at hse
            have HG9 := Lib.hid (HG60.out.below HB8.out HG60.out.lt)
            have HO9 := Lib.hid (show OwnC w9 w.heap.size A2 n2 c2 ((G.take i).filter (seen G)) from by
              have h1 := OwnC.below HO.out HB67.out
              exact OwnC.below h1 HB8.out)
            have HB9 := Lib.hid (HB06.out.trans (HB8.out.mono HB06.out.size))
            obtain ⟨q0, q1, q2, q3, q4, q5⟩ := HG9.out.cells
            cases hd : x.del with
            | true =>
              rw [hd] at hse q4
              have HFX := Lib.hid (show (G.take (i + 1)).filter (seen G) = (G.take i).filter (seen G) by rw [HFN.out, hse]; exact List.append_nil _)
              clear hse
              go_wp2
              exact ⟨⟨i + 1, n2, gf, A2, c2, some i, rfl, rfl, rfl, by first | rfl | go_num, by omega, by omega, Lib.hid (by rw [HFX.out]; exact HO9.out), HGF, HLS, HB9⟩, by simp [intOf]; omega⟩
            | false =>
              rw [hd] at hse q4
              clear hd
              by_cases hgs : gf ≤ x.seq
              · have s1 : decide (gf ≤ x.seq) = true := decide_eq_true hgs
                have HFX := Lib.hid (show (G.take (i + 1)).filter (seen G) = (G.take i).filter (seen G) ++ [x] by rw [HFN.out, hse, s1]; rfl)
                clear hse
                go_wp2_with (first
                  | (show wpList _ _ _ ({ dst := some 65, op := Op.load _ _, type := _, pos := _, after := _, guard := _ } :: _) _ _; refine wpList_load_mid rfl 29 (.tmp 6) rfl wr.heap.size 0 rfl [.string x.row, .string x.col, .int .u64 x.ts, .int .u64 x.seq, .bool x.del, .string x.val] _ HG9.out.range Try.underlying29 rfl (by kernel_rfl) ?_)
                  | (at_builtin; show wpList _ _ _ ({ dst := some 67, op := _, type := _, pos := _, after := _, guard := _ } :: _) _ _; go_loud (refine cells_app rfl _ _ rfl w.heap.size A2 n2 c2 (n2 + 1) ((G.take i).filter (seen G)) [x] rfl (OwnC.below HO9.out (below_al _ _)) (some ⟨w9.heap.size, 0, none⟩) 1 1 rfl (rd_made x rfl rfl) rfl rfl (by omega) (by rw [World.size_alloc]; have := HB9.out.size; omega) ?_); intro A8 c8 wA HO8 HGA; rw [← HFX.out] at HO8; have HBA := Lib.hid (Own.grow (OwnC.below HO9.out (below_al _ _)) (HB9.out.trans ((below_al _ _).mono HB9.out.size)) (by rw [World.size_alloc]; have := HB9.out.size; omega) (Nat.le_refl _) HGA.out)))
                exact ⟨⟨i + 1, n2 + 1, gf, A8, c8, some i, rfl, rfl, rfl, by first | rfl | go_num, by omega, by omega, HO8, HGF, HLS, HBA⟩, by simp [intOf]; omega⟩
              · have s1 : decide (gf ≤ x.seq) = false := decide_eq_false hgs
                have HFX := Lib.hid (show (G.take (i + 1)).filter (seen G) = (G.take i).filter (seen G) by rw [HFN.out, hse, s1]; exact List.append_nil _)
                clear hse hgs
                go_wp2
                exact ⟨⟨i + 1, n2, gf, A2, c2, some i, rfl, rfl, rfl, by first | rfl | go_num, by omega, by omega, Lib.hid (by rw [HFX.out]; exact HO9.out), HGF, HLS, HB9⟩, by simp [intOf]; omega⟩
    · have e1 : decide ((i : Int) < (n : Int)) = false := decide_eq_false (by omega)
      have ho := HO.out
      rw [List.take_of_length_le (by rw [HN.out]; omega)] at ho
      have HOF := Lib.hid ho
      clear ho
      go_wp2
      go_ret
      exact ⟨A2, n2, c2, rfl, by omega, HOF.out, HB.out⟩
end Go.Proofs.Ytoligmmjmghgnaa
