/-
  The walk of the reference's Apply.
-/
import Derived.Test.YtaeemeoffnhgfaaRefFO13
namespace Go.Proofs.Ytaeemeoffnhgfaa
open Go.RowKit
attribute [local go_sem ↓] Go.wp_at_zero Go.wp_at_succ

theorem OwnR.le {w : World} {B n c : Nat} {A : Option Addr} {l : List Fi} (h : OwnR w B A n c l) : n ≤ c := by
  rcases h.2 with ⟨_, h2⟩ | ⟨g, cap, cur, hv, hb, hg, h3, h4, h5, h6⟩
  · omega
  · injection hv with _ _ hc
    omega
theorem OwnR.rd {w : World} {B n c : Nat} {A : Option Addr} {l : List Fi} (h : OwnR w B A n c l) : Rd w w.heap.size A (fis l) := Own.rd h (by omega)
/-- put, at a slice of the call's own -/
theorem putOwn (B n c : Nat) (A : Option Addr) (l : List Fi) (f : Fi) (w : World) (h : OwnR w B A n c l) (hn : n ≤ 1000) (hB : B ≤ w.heap.size) :
    Calls Try.prog 39 #[.slice A n c, f.agg] w fun e w' => ∃ (A' : Option Addr) (c' : Nat), e = .returned (.slice A' (n + 1) c') ∧ OwnR w' B A' (n + 1) c' (putF l f) ∧ Below w.heap.size w w' := by
  have hl := h.len
  have hc := h.le
  subst hl
  refine (refPut_any A c l f w h.rd hc hn).mono ?_
  rintro e w' ⟨A', c', rfl, ho, hb⟩
  exact ⟨A', c', rfl, Own.lower ho hB, hb⟩
theorem refMayL (f : Fi) (W : World) : Calls Try.prog 38 #[.agg #[.int .i64 f.level, .string f.name, .string f.low, .string f.high, .int .i64 f.many]] W fun e w' => e = .returned (.bool (may f)) ∧ Below W.heap.size W w' := refMay_any f W
theorem putL (B n c : Nat) (A : Option Addr) (l : List Fi) (f : Fi) (w : World) (h : OwnR w B A n c l) (hn : n ≤ 1000) (hB : B ≤ w.heap.size) :
    Calls Try.prog 39 #[.slice A n c, .agg #[.int .i64 f.level, .string f.name, .string f.low, .string f.high, .int .i64 f.many]] w fun e w' => ∃ (A' : Option Addr) (c' : Nat), e = .returned (.slice A' (n + 1) c') ∧ OwnR w' B A' (n + 1) c' (putF l f) ∧ Below w.heap.size w w' := putOwn B n c A l f w h hn hB
theorem findIdx_any {α : Type} {q : α → Bool} {l : List α} {i : Nat} (h : l.findIdx? q = some i) : l.any q = true := by
  obtain ⟨h1, h2, _⟩ := List.findIdx?_eq_some_iff_getElem.1 h
  exact List.any_eq_true.2 ⟨_, List.getElem_mem h1, h2⟩
theorem findIdx_none {α : Type} {q : α → Bool} {l : List α} (h : l.findIdx? q = none) : l.any q = false := by
  rw [List.any_eq_false]
  intro x hx
  rw [List.findIdx?_eq_none_iff.1 h x hx]
  exact Bool.false_ne_true
theorem addAll_append : ∀ (l : List Fi) (a b : List Fi), addAll l (a ++ b) = (addAll l a).bind fun m => addAll m b
  | l, [], b => by rw [List.nil_append, addAll_nil]; rfl
  | l, f :: a, b => by
    rw [List.cons_append]
    cases h : l.any (named f.name) with
    | true => rw [addAll_hit _ h, addAll_hit _ h]; rfl
    | false => rw [addAll_miss _ h, addAll_miss _ h]; exact addAll_append _ a b
theorem addAll_next {l m fs : List Fi} {k : Nat} (h : addAll l (fs.take k) = some m) (hk : k < fs.length) (hi : m.any (named fs[k].name) = false) : addAll l (fs.take (k + 1)) = some (putF m fs[k]) := by
  rw [List.take_succ_eq_append_getElem hk, addAll_append, h]
  show addAll m [fs[k]] = _
  rw [addAll_miss _ hi, addAll_nil]
theorem addAll_stop {l m fs : List Fi} {k : Nat} (h : addAll l (fs.take k) = some m) (hk : k < fs.length) (hi : m.any (named fs[k].name) = true) : addAll l fs = none := by
  have e : fs = fs.take k ++ fs[k] :: fs.drop (k + 1) := by rw [List.getElem_cons_drop, List.take_append_drop]
  rw [e, addAll_append, h]
  show addAll m (fs[k] :: fs.drop (k + 1)) = none
  exact addAll_hit _ hi
theorem putAll_next {l : List Fi} {j : Nat} (h : j < l.length) : putAll [] (l.take (j + 1)) = putF (putAll [] (l.take j)) l[j] := by
  unfold putAll
  rw [List.take_succ_eq_append_getElem h, List.foldl_append]
  rfl
set_option maxRecDepth 10000 in
set_option maxHeartbeats 16000000 in
theorem refApply_any (A1 A2 A3 : Option Addr) (c1 c2 c3 N1 N2 N3 : Nat) (ls add : List Fi) (del : List ByteArray) (nx fl nx' fl' : Int) (w : World) (h1 : Rd w w.heap.size A1 (fis ls)) (h2 : Rd w w.heap.size A2 (fis add)) (h3 : Rd w w.heap.size A3 (del.map Value.string))
    (n1 : ls.length = N1) (n2 : add.length = N2) (n3 : del.length = N3) (l1 : N1 ≤ 450) (l2 : N2 ≤ 100) (l3 : N3 ≤ 100) :
    Calls Try.prog 16 #[stV A1 N1 c1 nx fl, edV A2 N2 c2 A3 N3 c3 nx' fl'] w (AppOut w nx' fl' (refF nx fl nx' fl' ls add del)) := by
  have hm := ApR.made w (stC A1 N1 c1 nx fl) (edC A2 N2 c2 A3 N3 c3 nx' fl')
  obtain ⟨rm, hrm⟩ : ∃ rm, refF nx fl nx' fl' ls add del = rm := ⟨_, rfl⟩
  rw [hrm]
  have HRM := Lib.hid hrm
  unfold stV edV
  unfold stC edC at hm ⊢
  have HM := Lib.hid hm
  have H1 := Lib.hid h1
  have H2 := Lib.hid h2
  have H3 := Lib.hid h3
  have HN1 := Lib.hid n1
  have HN2 := Lib.hid n2
  have HN3 := Lib.hid n3
  obtain ⟨i0, hi0, hz0, hz1, hz2⟩ := info_parts refFileInfo
  clear h1 h2 h3 hm n1 n2 n3 hrm
  go_enter Try.func16, Try.ntmps16
  go_wp2
  go_loopw [6] (fun vi wr => ∃ k : Nat, vi = .int .i64 (k : Int) ∧ k ≤ N2 ∧ Hid (allTo may add k) ∧ Hid (ApR w wr (stC A1 N1 c1 nx fl) (edC A2 N2 c2 A3 N3 c3 nx' fl'))) (fun vi _ => N2 - (intOf vi).toNat)
  case atStart => exact ⟨0, rfl, Nat.zero_le _, Lib.hid (allTo.zero _ _), HM⟩
  case round =>
    obtain ⟨k, rfl, hk, HU, HR⟩ := hrel
    rename World => wr
    clear HM
    obtain ⟨c30, c31, c32, c33⟩ := ApR.ed HR.out
    by_cases hlt : k < N2
    · have e1 : decide ((k : Int) < (N2 : Int)) = true := decide_eq_true (by omega)
      have k1 : (0 : Int) ≤ (k : Int) := by omega
      have k2 : (k : Int) < (N2 : Int) := by omega
      have hkl : k < add.length := by rw [HN2.out]; exact hlt
      obtain ⟨b, o, rfl, hr⟩ := rd_elem (H2.out.below HR.out.1) hkl
      have HB := Lib.hid (fun h => all_bad (q := may) hkl h)
      have HG := Lib.hid (fun h => HU.out.succ hkl h)
      obtain ⟨x, hx⟩ : ∃ x, add[k] = x := ⟨_, rfl⟩
      rw [hx] at hr HB HG
      have HRG := Lib.hid hr
      clear hr hx
      cases hmx : may x with
      | false =>
        have HF := Lib.hid (show rm = (1, []) by
          rw [← HRM.out]
          unfold refF
          rw [if_pos]
          refine .inl ?_
          have := HB.out hmx
          rw [List.all_eq_false] at this
          obtain ⟨y, hy, hn⟩ := this
          exact List.any_eq_true.2 ⟨y, hy, by simpa using hn⟩)
        go_wp2_with (first
          | (show wpList _ _ _ ({ dst := some 25, op := Op.load _ _, type := _, pos := _, after := _, guard := _ } :: _) _ _; refine wpList_load_mid rfl 76 (.tmp 24) rfl b (o + k * 5) rfl [.int .i64 x.level, .string x.name, .string x.low, .string x.high, .int .i64 x.many] _ HRG.out Try.underlying76 rfl (by kernel_rfl) ?_)
          | (go_at_call 38; refine (refMayL x _).mono ?_; rintro e w5 ⟨rfl, hb5⟩; rw [hmx]; have HM5 := Lib.hid (ApR.below HR.out hb5 HR.out.2.1))
          | (show wpList _ _ _ ({ dst := none, op := Op.store _ (Operand.tmp 4) _, type := _, pos := _, after := _, guard := _ } :: _) _ _; refine wpList_store_mid rfl 44 (.tmp 4) (.tmp 28) rfl (w.heap.size + 1 + 1) 0 (stC none 0 0 0 0) rfl rfl HM5.out.there (by kernel_rfl) (stC_one _ _ _ _ _) ?_; refine HM5.out.putW none 0 0 0 0 ?_; intro w6 HB6 d0 d1 d2))
        (try simp only [Exit.inBlock, Exit.then])
        exact bodyPost_ret (app_resultsR rfl _ _ _ none 0 0 0 0 _ rfl rfl d0 d1 d2) rfl (AppOut.bad HF.out (by decide) rfl HB6.out.1)
      | true =>
        have HGX := Lib.hid (HG.out hmx)
        go_wp2_with (first
          | (show wpList _ _ _ ({ dst := some 25, op := Op.load _ _, type := _, pos := _, after := _, guard := _ } :: _) _ _; refine wpList_load_mid rfl 76 (.tmp 24) rfl b (o + k * 5) rfl [.int .i64 x.level, .string x.name, .string x.low, .string x.high, .int .i64 x.many] _ HRG.out Try.underlying76 rfl (by kernel_rfl) ?_)
          | (go_at_call 38; refine (refMayL x _).mono ?_; rintro e w5 ⟨rfl, hb5⟩; rw [hmx]; have HM5 := Lib.hid (ApR.below HR.out hb5 HR.out.2.1)))
        exact ⟨⟨k + 1, by first | rfl | go_num, by omega, HGX, HM5⟩, by simp [intOf]; omega⟩
    · have e1 : decide ((k : Int) < (N2 : Int)) = false := decide_eq_false (by omega)
      have hall := HU.out.all (by rw [HN2.out]; omega)
      have hq : (add.any fun x => !may x) = false := by
        rw [List.any_eq_false]
        intro x hx
        rw [List.all_eq_true.1 hall x hx]
        exact Bool.false_ne_true
      obtain ⟨s0, s1, s2⟩ := ApR.st HR.out
      by_cases hbad : nx' < nx ∨ fl' < fl
      · have HF := Lib.hid (show rm = (1, []) by rw [← HRM.out]; unfold refF; rw [if_pos (.inr hbad)])
        by_cases hb1 : nx' < nx
        · have e2 : decide (nx' < nx) = true := decide_eq_true hb1
          clear hall hq hbad
          go_wp2_with (show wpList _ _ _ ({ dst := none, op := Op.store _ (Operand.tmp 4) _, type := _, pos := _, after := _, guard := _ } :: _) _ _; refine wpList_store_mid rfl 44 (.tmp 4) (.tmp 41) rfl (w.heap.size + 1 + 1) 0 (stC none 0 0 0 0) rfl rfl HR.out.there (by kernel_rfl) (stC_one _ _ _ _ _) ?_; refine HR.out.putW none 0 0 0 0 ?_; intro w6 HB6 d0 d1 d2)
          (try simp only [Exit.inBlock, Exit.then])
          exact bodyPost_ret (app_resultsR rfl _ _ _ none 0 0 0 0 _ rfl rfl d0 d1 d2) rfl (AppOut.bad HF.out (by decide) rfl HB6.out.1)
        · have e2 : decide (nx' < nx) = false := decide_eq_false hb1
          have e3 : decide (fl' < fl) = true := decide_eq_true (by omega)
          clear hall hq hbad
          go_wp2_with (show wpList _ _ _ ({ dst := none, op := Op.store _ (Operand.tmp 4) _, type := _, pos := _, after := _, guard := _ } :: _) _ _; refine wpList_store_mid rfl 44 (.tmp 4) (.tmp 41) rfl (w.heap.size + 1 + 1) 0 (stC none 0 0 0 0) rfl rfl HR.out.there (by kernel_rfl) (stC_one _ _ _ _ _) ?_; refine HR.out.putW none 0 0 0 0 ?_; intro w6 HB6 d0 d1 d2)
          (try simp only [Exit.inBlock, Exit.then])
          exact bodyPost_ret (app_resultsR rfl _ _ _ none 0 0 0 0 _ rfl rfl d0 d1 d2) rfl (AppOut.bad HF.out (by decide) rfl HB6.out.1)
      · have e2 : decide (nx' < nx) = false := decide_eq_false (by omega)
        have e3 : decide (fl' < fl) = false := decide_eq_false (by omega)
        have hrf : rm = refM ls add del := by
          rw [← HRM.out]
          unfold refF
          rw [if_neg]
          rintro (h | h)
          · rw [hq] at h; cases h
          · exact hbad h
        have HRF := Lib.hid hrf
        clear hall hq hbad hrf
        have HO0 := Lib.hid (show OwnR (wr.alloc (.cells #[] 76)) wr.heap.size (some ⟨wr.heap.size, 0, none⟩) 0 0 (putAll [] (ls.take 0)) from Own.new0' wr _ 5)
        have HB0 := Lib.hid (below_al wr (.cells #[] 76))
        go_wp2
        clear s0 s1 s2 c30 c31 c32 c33 e1 e2 e3
        go_loopw [7, 8] (fun v7 vi wq => ∃ (j : Nat) (A7 : Option Addr) (c7 : Nat), v7 = .slice A7 j c7 ∧ vi = .int .i64 (j : Int) ∧ j ≤ N1 ∧ Hid (OwnR wq wr.heap.size A7 j c7 (putAll [] (ls.take j))) ∧ Hid (Below wr.heap.size wr wq)) (fun _ vi _ => N1 - (intOf vi).toNat)
        case atStart => exact ⟨0, _, 0, rfl, rfl, Nat.zero_le _, HO0, HB0⟩
        case round =>
          obtain ⟨j, A7, c7, rfl, rfl, hj, HO, HQ⟩ := hrel
          rename World => wq
          clear HO0 HB0
          have HMq := Lib.hid (ApR.below HR.out HQ.out HR.out.2.1)
          obtain ⟨s0, s1, s2⟩ := ApR.st HMq.out
          by_cases hjt : j < N1
          · have e1 : decide ((j : Int) < (N1 : Int)) = true := decide_eq_true (by omega)
            have k1 : (0 : Int) ≤ (j : Int) := by omega
            have k2 : (j : Int) < (N1 : Int) := by omega
            have hjl : j < ls.length := by rw [HN1.out]; exact hjt
            obtain ⟨b, o, rfl, hr⟩ := rd_elem (H1.out.below HMq.out.1) hjl
            have hnx := putAll_next hjl
            obtain ⟨x, hx⟩ : ∃ x, ls[j] = x := ⟨_, rfl⟩
            rw [hx] at hr hnx
            have HRG := Lib.hid hr
            have HNX := Lib.hid hnx
            clear hr hx hnx
            go_wp2_with (first
              | (show wpList _ _ _ ({ dst := some 55, op := Op.load _ _, type := _, pos := _, after := _, guard := _ } :: _) _ _; refine wpList_load_mid rfl 76 (.tmp 54) rfl b (o + j * 5) rfl [.int .i64 x.level, .string x.name, .string x.low, .string x.high, .int .i64 x.many] _ HRG.out Try.underlying76 rfl (by kernel_rfl) ?_)
              | (go_at_call 39; refine (putL wr.heap.size j c7 A7 _ x _ HO.out (by omega) HQ.out.size).mono ?_; rintro e w5 ⟨A5, c5, rfl, ho5, hb5⟩; have HB5 := Lib.hid (HQ.out.trans (hb5.mono HQ.out.size))))
            rw [← HNX.out] at ho5
            exact ⟨⟨j + 1, A5, c5, rfl, by first | rfl | go_num, by omega, Lib.hid ho5, HB5⟩, by simp [intOf]; omega⟩
          · have e1 : decide ((j : Int) < (N1 : Int)) = false := decide_eq_false (by omega)
            have hjn : j = N1 := by omega
            have ho := HO.out
            rw [List.take_of_length_le (by rw [HN1.out]; omega)] at ho
            obtain ⟨m0, hm0⟩ : ∃ m, putAll [] ls = m := ⟨_, rfl⟩
            rw [hm0] at ho
            have HM0 := Lib.hid hm0
            have HO1 := Lib.hid ho
            clear ho hm0 HO
            go_wp2
            clear s0 s1 s2 e1
            go_loopw [7, 9] (fun v7 vi wq => ∃ (k n : Nat) (A7 : Option Addr) (c7 : Nat) (L : List Fi), v7 = .slice A7 n c7 ∧ vi = .int .i64 (k : Int) ∧ k ≤ N3 ∧ n ≤ N1 ∧ Hid (delAll m0 (del.take k) = some L) ∧ Hid (OwnR wq wr.heap.size A7 n c7 L) ∧ Hid (Below wr.heap.size wr wq)) (fun _ vi _ => N3 - (intOf vi).toNat)
            case atStart => exact ⟨0, j, A7, c7, m0, rfl, rfl, Nat.zero_le _, hj, Lib.hid rfl, HO1, HQ⟩
            case round =>
              clear HMq HQ HO1 hjt hjn hj
              obtain ⟨k3, n, A7, c7, L, rfl, rfl, hk3, hn, HD, HO, HQ⟩ := hrel
              rename World => wq
              have HMq := Lib.hid (ApR.below HR.out HQ.out HR.out.2.1)
              obtain ⟨c30, c31, c32, c33⟩ := ApR.ed HMq.out
              by_cases hkt : k3 < N3
              · have e1 : decide ((k3 : Int) < (N3 : Int)) = true := decide_eq_true (by omega)
                have k1 : (0 : Int) ≤ (k3 : Int) := by omega
                have k2 : (k3 : Int) < (N3 : Int) := by omega
                have hkd : k3 < del.length := by rw [HN3.out]; exact hkt
                obtain ⟨b, o, rfl, hbl, hcell⟩ := text_elem (H3.out.below HMq.out.1) hkd
                obtain ⟨d, hd⟩ : ∃ d, del[k3] = d := ⟨_, rfl⟩
                rw [hd] at hcell
                have hfnd := refFind_any A7 c7 n L d wq HO.out.rd HO.out.len (by omega)
                have HFND := Lib.hid hfnd
                clear hfnd
                cases hfi : L.findIdx? (named d) with
                | none =>
                  have HI := Lib.hid (idx_none hfi)
                  have HF := Lib.hid (show rm = (3, []) by rw [HRF.out]; exact refM_none (by rw [HM0.out]; exact delAll_none HD.out hkd (by rw [hd]; exact hfi)))
                  clear hfi hd
                  go_wp2_with (first
                    | (go_at_call 40; refine HFND.out.mono ?_; rintro e w5 ⟨rfl, rfl⟩; rw [HI.out])
                    | (show wpList _ _ _ ({ dst := none, op := Op.store _ (Operand.tmp 4) _, type := _, pos := _, after := _, guard := _ } :: _) _ _; refine wpList_store_mid rfl 44 (.tmp 4) (.tmp 73) rfl (w.heap.size + 1 + 1) 0 (stC none 0 0 0 0) rfl rfl HMq.out.there (by kernel_rfl) (stC_one _ _ _ _ _) ?_; refine HMq.out.putW none 0 0 0 0 ?_; intro w6 HB6 d0 d1 d2))
                  (try simp only [Exit.inBlock, Exit.then])
                  exact bodyPost_ret (app_resultsR rfl _ _ _ none 0 0 0 0 _ rfl rfl d0 d1 d2) rfl (AppOut.bad HF.out (by decide) rfl HB6.out.1)
                | some i =>
                  have HI := Lib.hid (idx_some hfi)
                  have hin : i < n := by have := idx_lt hfi; rw [HO.out.len] at this; exact this
                  have HF := Lib.hid (delAll_next HD.out hkd (by rw [hd]; exact hfi))
                  have k3' : decide ((i : Int) < 0) = false := decide_eq_false (by omega)
                  clear hfi hd
                  go_wp2_with (go_at_call 40; refine HFND.out.mono ?_; rintro e w5 ⟨rfl, rfl⟩; rw [HI.out])
                  have hcap := HO.out.le
                  have hLn := HO.out.len
                  have hw81 : IntKind.i64.wrap ((i : Int) + 1) = (i : Int) + 1 := IntWalk.i64_in _ (by omega)
                  have hsl1 := fun W => run_front (P := Try.prog) (t := 38) (e := 76) (size := 5) Try.underlying38 hi0 hz1 A7 n c7 i (by omega) W
                  have hsl2 := fun W => run_tail (P := Try.prog) (t := 38) (e := 76) (size := 5) Try.underlying38 hi0 hz1 A7 n c7 (i + 1) (by omega) W
                  rw [show ((i + 1 : Nat) : Int) = (i : Int) + 1 by omega] at hsl2
                  obtain ⟨At, hAt⟩ : ∃ At, tailA A7 c7 (i + 1) 5 = At := ⟨_, rfl⟩
                  obtain ⟨S0, hS0⟩ : ∃ S0, wq.heap.size = S0 := ⟨_, rfl⟩
                  obtain ⟨CC, hCD⟩ : ∃ CC : World → Prop, ∀ W, CC W ↔ (Rd W S0 A7 (fis L) ∧ S0 ≤ W.heap.size ∧ Below S0 wq W) := ⟨fun W => Rd W S0 A7 (fis L) ∧ S0 ≤ W.heap.size ∧ Below S0 wq W, fun _ => Iff.rfl⟩
                  have hCC8 : ∀ W W', Below S0 W W' → CC W → CC W' := by
                    intro W W' hb hc
                    obtain ⟨h1, h2, h3⟩ := (hCD _).1 hc
                    exact (hCD _).2 ⟨h1.below hb, Nat.le_trans h2 hb.size, h3.trans hb⟩
                  have hsz : ∀ W, CC W → S0 ≤ W.heap.size := fun W h => ((hCD _).1 h).2.1
                  have hal : ∀ (W : World) (ob : Obj), CC W → CC (W.alloc ob) := fun W ob h => hCC8 _ _ ((Below.refl S0 W).alloc (hsz _ h) ob) h
                  have hnew0 : ∀ W, CC W → Own (W.alloc (.cells #[] 76)) S0 76 5 (some ⟨W.heap.size, 0, none⟩) 0 0 [] := fun W h => (Own.new0' W 76 5).lower (hsz _ h)
                  have hsrc1 : ∀ W, CC W → Rd W W.heap.size A7 (fis (L.take i)) := fun W h => (((hCD _).1 h).1.more (hsz _ h)).frontR Fi.vals_len (by omega)
                  have hsrc2 : ∀ W, CC W → Rd W W.heap.size At (fis (L.drop (i + 1))) := fun W h => by
                    rw [← hAt]
                    exact (((hCD _).1 h).1.more (hsz _ h)).tailR Fi.vals_len hLn hcap (by omega)
                  have hbw : ∀ W, CC W → Below S0 wq W := fun W h => ((hCD _).1 h).2.2
                  have hl1 : (fis (L.take i)).length = i * 5 := by rw [fis_len, List.length_take, hLn]; omega
                  have hl2 : (fis (L.drop (i + 1))).length = (n - (i + 1)) * 5 := by rw [fis_len, List.length_drop, hLn]
                  have HC : CC wq.drew := (hCD _).2 ⟨hS0 ▸ HO.out.rd, Nat.le_of_eq hS0.symm, (Below.refl S0 wq).drew⟩
                  rw [hAt] at hsl2
                  have HQS := Lib.hid (show wr.heap.size ≤ S0 by rw [← hS0]; exact HQ.out.size)
                  have HLn := Lib.hid hLn
                  clear hAt hCD hS0 hLn
                  refine region_wz (fun W => CC W) none (by kernel_rfl) ?_
                  apply WZ.take (i := 1) (some 75) rfl rfl (by kernel_rfl) (by kernel_rfl) (by kernel_rfl) (calm_panic _) (by kernel_rfl)
                  case hy => (refine .inl ⟨by kernel_rfl, fun W hC => ?_⟩; (try dsimp only at hC); go_simp; (try simp only [hw81,hsl1,hsl2]); rfl)
                  case hC => exact HC
                  case ha => (simp only [Act.put, List.setIfInBounds_toArray, List.set_cons_zero, List.set_cons_succ]; rfl)
                  apply WZ.take (i := 2) (some 76) rfl rfl (by kernel_rfl) (by kernel_rfl) (by kernel_rfl) (calm_panic _) (by kernel_rfl)
                  case hy => (refine .inl ⟨by kernel_rfl, fun W hC => ?_⟩; (try dsimp only at hC); go_simp; (try simp only [hw81,hsl1,hsl2]); rfl)
                  case hC => exact HC
                  case ha => (simp only [Act.put, List.setIfInBounds_toArray, List.set_cons_zero, List.set_cons_succ]; rfl)
                  apply WZ.take (i := 3) (some 77) rfl rfl (by kernel_rfl) (by kernel_rfl) (by kernel_rfl) (calm_panic _) (by kernel_rfl)
                  case hy => (refine .inl ⟨by kernel_rfl, fun W hC => ?_⟩; (try dsimp only at hC); go_simp; (try simp only [hw81,hsl1,hsl2]); rfl)
                  case hC => exact HC
                  case ha => (simp only [Act.put, List.setIfInBounds_toArray, List.set_cons_zero, List.set_cons_succ]; rfl)
                  apply WZ.take (i := 5) (some 79) rfl rfl (by kernel_rfl) (by kernel_rfl) (by kernel_rfl) (calm_panic _) (by kernel_rfl)
                  case hy => (refine .inl ⟨by kernel_rfl, fun W hC => ?_⟩; (try dsimp only at hC); go_simp; (try simp only [hw81,hsl1,hsl2]); rfl)
                  case hC => exact HC
                  case ha => (simp only [Act.put, List.setIfInBounds_toArray, List.set_cons_zero, List.set_cons_succ]; rfl)
                  apply WZ.take (i := 6) (some 80) rfl rfl (by kernel_rfl) (by kernel_rfl) (by kernel_rfl) (calm_panic _) (by kernel_rfl)
                  case hy => (refine .inl ⟨by kernel_rfl, fun W hC => ?_⟩; (try dsimp only at hC); go_simp; (try simp only [hw81,hsl1,hsl2]); rfl)
                  case hC => exact HC
                  case ha => (simp only [Act.put, List.setIfInBounds_toArray, List.set_cons_zero, List.set_cons_succ]; rfl)
                  apply WZ.take (i := 7) (some 81) rfl rfl (by kernel_rfl) (by kernel_rfl) (by kernel_rfl) (calm_panic _) (by kernel_rfl)
                  case hy => (refine .inl ⟨by kernel_rfl, fun W hC => ?_⟩; (try dsimp only at hC); go_simp; (try simp only [hw81,hsl1,hsl2]); rfl)
                  case hC => exact HC
                  case ha => (simp only [Act.put, List.setIfInBounds_toArray, List.set_cons_zero, List.set_cons_succ]; rfl)
                  apply WZ.take (i := 8) (some 82) rfl rfl (by kernel_rfl) (by kernel_rfl) (by kernel_rfl) (calm_panic _) (by kernel_rfl)
                  case hy => (refine .inl ⟨by kernel_rfl, fun W hC => ?_⟩; (try dsimp only at hC); go_simp; (try simp only [hw81,hsl1,hsl2]); rfl)
                  case hC => exact HC
                  case ha => (simp only [Act.put, List.setIfInBounds_toArray, List.set_cons_zero, List.set_cons_succ]; rfl)
                  -- 0
                  refine WZ.one (i := 0) rfl (by kernel_rfl) ?_
                  conv => arg 4; arg 1; whnf
                  go_wp2_with fail
                  have hA := hnew0 _ HC
                  have HC2 := hal _ (.cells #[] 76) HC
                  clear HC
                  have HC := HC2
                  clear HC2
                  refine ⟨HC, ?_⟩
                  -- 4
                  refine WZ.one (i := 4) rfl (by kernel_rfl) ?_
                  conv => arg 4; arg 1; whnf
                  have hP := hsrc1 _ HC
                  go_wp2_with (at_builtin; go_loud (refine wpList_app _ rfl _ _ _ rfl S0 76 i0 zeroFile 5 64 Try.underlying38 hi0 hz0 hz1 hz2 rfl (by decide) _ _ _ _ rfl hA _ _ _ _ (fis (L.take i)) rfl hP hl1 (fis_one _) (by unfold maxLen; omega) (by omega) (hsz _ HC) ?_); intro A4 c4 w4 ho4 hg4 hat4)
                  have HC2 := hCC8 _ _ (Own.grow hA (Below.refl S0 _) (hsz _ HC) (Nat.le_refl _) hg4) HC
                  clear HC hA hP
                  have HC := HC2
                  have hA := ho4
                  clear HC2 ho4 hg4 hat4
                  refine ⟨HC, ?_⟩
                  -- 9
                  refine WZ.one (i := 9) rfl (by kernel_rfl) ?_
                  conv => arg 4; arg 1; whnf
                  have hP := hsrc2 _ HC
                  go_wp2_with (at_builtin; go_loud (refine wpList_app _ rfl _ _ _ rfl S0 76 i0 zeroFile 5 64 Try.underlying38 hi0 hz0 hz1 hz2 rfl (by decide) _ _ _ _ rfl hA _ _ _ _ (fis (L.drop (i + 1))) rfl hP hl2 (fis_one _) (by unfold maxLen; omega) (by omega) (hsz _ HC) ?_); intro A5 c5 w5 ho5 hg5 hat5)
                  have HC2 := hCC8 _ _ (Own.grow hA (Below.refl S0 _) (hsz _ HC) (Nat.le_refl _) hg5) HC
                  clear HC hA hP
                  have HC := HC2
                  have hA := ho5
                  clear HC2 ho5 hg5 hat5
                  refine ⟨HC, ?_⟩
                  apply WZ.take (i := 10) (some 7) rfl rfl (by kernel_rfl) (by kernel_rfl) (by kernel_rfl) (calm_panic _) (by kernel_rfl)
                  case hy => (refine .inl ⟨by kernel_rfl, fun W hC => ?_⟩; (try dsimp only at hC); go_simp; (try simp only [hw81,hsl1,hsl2]); rfl)
                  case hC => exact HC
                  case ha => (simp only [Act.put, List.setIfInBounds_toArray, List.set_cons_zero, List.set_cons_succ]; rfl)
                  refine WZ.done (by kernel_rfl) ?_ _
                  simp only [Calm, Exit.then]
                  have HB5 := Lib.hid (HQ.out.trans ((hbw _ HC).mono HQS.out))
                  have hfin : OwnR w5 wr.heap.size A5 (0 + i + (n - (i + 1))) c5 (L.eraseIdx i) := by
                    unfold OwnR
                    rw [List.eraseIdx_eq_take_drop_succ, show fis (L.take i ++ L.drop (i + 1)) = [] ++ fis (L.take i) ++ fis (L.drop (i + 1)) by simp [fis]]
                    exact Own.lower hA HQS.out
                  have HO5 := Lib.hid hfin
                  clear HC hA hfin hCC8 hsz hal hnew0 hsrc1 hsrc2 hbw
                  go_wp2
                  exact ⟨⟨k3 + 1, i + (n - (i + 1)), A5, c5, L.eraseIdx i, by first | rfl | (rw [Nat.zero_add]), by first | rfl | go_num, by omega, by omega, HF, Lib.hid (by have h5 := HO5.out; rw [Nat.zero_add] at h5; exact h5), HB5⟩, by simp [intOf]; omega⟩
              · have e1 : decide ((k3 : Int) < (N3 : Int)) = false := decide_eq_false (by omega)
                have HDL := Lib.hid (delAll_all HD.out (by rw [HN3.out]; omega))
                go_wp2
                clear c30 c31 c32 c33 e1 HD
                have HA0 := Lib.hid (show addAll L (add.take 0) = some L from addAll_nil L)
                go_loopw [7, 11] (fun v7 vi wp => ∃ (k m : Nat) (A7 : Option Addr) (c7 : Nat) (Q : List Fi), v7 = .slice A7 m c7 ∧ vi = .int .i64 (k : Int) ∧ k ≤ N2 ∧ m ≤ n + k ∧ Hid (addAll L (add.take k) = some Q) ∧ Hid (OwnR wp wr.heap.size A7 m c7 Q) ∧ Hid (Below wr.heap.size wr wp)) (fun _ vi _ => N2 - (intOf vi).toNat)
                case atStart => exact ⟨0, n, A7, c7, L, rfl, rfl, Nat.zero_le _, by omega, HA0, HO, HQ⟩
                case round =>
                  clear HMq HQ HO HA0
                  obtain ⟨k4, m, A8, c8, Q, rfl, rfl, hk4, hm, HD, HO, HQ⟩ := hrel
                  rename World => wq
                  have HMq := Lib.hid (ApR.below HR.out HQ.out HR.out.2.1)
                  obtain ⟨c30, c31, c32, c33⟩ := ApR.ed HMq.out
                  by_cases hkt : k4 < N2
                  · have e1 : decide ((k4 : Int) < (N2 : Int)) = true := decide_eq_true (by omega)
                    have k1 : (0 : Int) ≤ (k4 : Int) := by omega
                    have k2 : (k4 : Int) < (N2 : Int) := by omega
                    have hkd : k4 < add.length := by rw [HN2.out]; exact hkt
                    obtain ⟨b, o, rfl, hr⟩ := rd_elem (H2.out.below HMq.out.1) hkd
                    have HNO := Lib.hid (fun h => addAll_next HD.out hkd h)
                    have HYE := Lib.hid (fun h => addAll_stop HD.out hkd h)
                    obtain ⟨x, hx⟩ : ∃ x, add[k4] = x := ⟨_, rfl⟩
                    rw [hx] at hr HNO HYE
                    have d1 : wq.cell? ⟨b, o + k4 * 5 + 1, none⟩ = some (.string x.name) := hr 1 _ rfl
                    have HRG := Lib.hid hr
                    clear hr hx
                    have hfnd := refFind_any A8 c8 m Q x.name wq HO.out.rd HO.out.len (by omega)
                    have HFND := Lib.hid hfnd
                    clear hfnd
                    cases hfi : Q.findIdx? (named x.name) with
                    | some i =>
                      have HI := Lib.hid (idx_some hfi)
                      have HF := Lib.hid (show rm = (4, []) by rw [HRF.out]; exact refM_twice (by rw [HM0.out]; exact HDL.out) (HYE.out (findIdx_any hfi)))
                      have i1 : decide ((0 : Int) ≤ (i : Int)) = true := decide_eq_true (by omega)
                      have i2 : (0 : Int) ≤ (i : Int) := by omega
                      clear hfi
                      go_wp2_with (first
                        | (go_at_call 40; refine HFND.out.mono ?_; rintro e w5 ⟨rfl, rfl⟩; rw [HI.out])
                        |
                          (show wpList _ _ _ ({ dst := none, op := Op.store _ (Operand.tmp 4) (Operand.tmp 100), type := _, pos := _, after := _, guard := _ } :: _) _ _; refine wpList_store_mid rfl 44 (.tmp 4) (.tmp 100) rfl (w.heap.size + 1 + 1) 0 (stC none 0 0 0 0) rfl rfl HMq.out.there (by kernel_rfl) (stC_one _ _ _ _ _) ?_; refine HMq.out.putW none 0 0 0 0 ?_; intro w6 HB6 d0 d1 d2)
                        )
                      (try simp only [Exit.inBlock, Exit.then])
                      exact bodyPost_ret (app_resultsR rfl _ _ _ none 0 0 0 0 _ rfl rfl d0 d1 d2) rfl (AppOut.bad HF.out (by decide) rfl HB6.out.1)
                    | none =>
                      have HI := Lib.hid (idx_none hfi)
                      have HF := Lib.hid (HNO.out (findIdx_none hfi))
                      clear hfi
                      go_wp2_with (first
                        | (go_at_call 40; refine HFND.out.mono ?_; rintro e w5 ⟨rfl, rfl⟩; rw [HI.out])
                        | (show wpList _ _ _ ({ dst := some 106, op := Op.load _ _, type := _, pos := _, after := _, guard := _ } :: _) _ _; refine wpList_load_mid rfl 76 (.tmp 105) rfl b (o + k4 * 5) rfl [.int .i64 x.level, .string x.name, .string x.low, .string x.high, .int .i64 x.many] _ HRG.out Try.underlying76 rfl (by kernel_rfl) ?_)
                        | (go_at_call 39; refine (putL wr.heap.size m c8 A8 _ x _ HO.out (by omega) HQ.out.size).mono ?_; rintro e w5 ⟨A5, c5, rfl, ho5, hb5⟩; have HB5 := Lib.hid (HQ.out.trans (hb5.mono HQ.out.size))))
                      exact ⟨⟨k4 + 1, m + 1, A5, c5, putF Q x, rfl, by first | rfl | go_num, by omega, by omega, HF, Lib.hid ho5, HB5⟩, by simp [intOf]; omega⟩
                  · have e1 : decide ((k4 : Int) < (N2 : Int)) = false := decide_eq_false (by omega)
                    have HAL := Lib.hid (show addAll L add = some Q by have := HD.out; rw [List.take_of_length_le (by rw [HN2.out]; omega)] at this; exact this)
                    go_wp2
                    clear c30 c31 c32 c33 e1 HD
                    have HLQ := Lib.hid HO.out.len
                    go_loopw [12] (fun vi wp => ∃ i : Nat, vi = .int .i64 (i : Int) ∧ i ≤ m ∧ Hid (apartTo Q i) ∧ Hid (Below wq.heap.size wq wp)) (fun vi _ => m - (intOf vi).toNat)
                    case atStart => exact ⟨0, rfl, Nat.zero_le _, Lib.hid (apartTo.zero Q), Lib.hid (Below.refl _ _)⟩
                    case round =>
                      obtain ⟨i, rfl, hi, HT, HBi⟩ := hrel
                      rename World => wi
                      by_cases hlt : i < m
                      · have e1 : decide ((i : Int) < (m : Int)) = true := decide_eq_true (by omega)
                        have k1 : (0 : Int) ≤ (i : Int) := by omega
                        have k2 : (i : Int) < (m : Int) := by omega
                        have hlq : i < Q.length := by rw [HLQ.out]; exact hlt
                        go_wp2
                        go_loopw [13] (fun vk wp => ∃ k : Nat, vk = .int .i64 (k : Int) ∧ k ≤ i ∧ Hid (apartIn Q i k) ∧ Hid (Below wq.heap.size wq wp)) (fun vk _ => i - (intOf vk).toNat)
                        case atStart => exact ⟨0, rfl, Nat.zero_le _, Lib.hid (apartIn.zero Q i), HBi⟩
                        case round =>
                          obtain ⟨k, rfl, hk, HU, HC3⟩ := hrel
                          rename World => wy
                          by_cases hlk : k < i
                          · have f1 : decide ((k : Int) < (i : Int)) = true := decide_eq_true (by omega)
                            have f2 : (0 : Int) ≤ (k : Int) := by omega
                            have f3 : (k : Int) < (i : Int) := by omega
                            have f4 : (k : Int) < (m : Int) := by omega
                            have hkq : k < Q.length := by omega
                            have HOy := Lib.hid (OwnR.below HO.out HC3.out)
                            obtain ⟨b, o, rfl, hr1⟩ := rd_elem HOy.out.rd hlq
                            obtain ⟨b', o', hA', hr2⟩ := rd_elem HOy.out.rd hkq
                            have hbo : b' = b ∧ o' = o := by cases hA'; exact ⟨rfl, rfl⟩
                            obtain ⟨rfl, rfl⟩ := hbo
                            have HBL := Lib.hid (show b' < wy.heap.size from ((Own.lt HOy.out) b' rfl).2)
                            have HUS := Lib.hid (fun h => HU.out.succ hlq hkq h)
                            have HUO := Lib.hid (fun h => clash.out hlq hlk h)
                            obtain ⟨x, hx⟩ : ∃ x, Q[i] = x := ⟨_, rfl⟩
                            obtain ⟨y, hy⟩ : ∃ y, Q[k] = y := ⟨_, rfl⟩
                            rw [hx] at hr1 HUS HUO
                            rw [hy] at hr2 HUS HUO
                            have hq1 : wy.drew.cell? ⟨b', o' + i * 5, none⟩ = some (.int .i64 x.level) := hr1 0 _ rfl
                            have hq2 : wy.drew.cell? ⟨b', o' + k * 5, none⟩ = some (.int .i64 y.level) := hr2 0 _ rfl
                            have HC : wy.drew.rangeAt b' (o' + i * 5) x.vals ∧ wy.drew.rangeAt b' (o' + k * 5) y.vals ∧ wy.drew.cell? ⟨b', o' + i * 5, none⟩ = some (.int .i64 x.level) ∧ wy.drew.cell? ⟨b', o' + k * 5, none⟩ = some (.int .i64 y.level) := ⟨hr1, hr2, hq1, hq2⟩
                            clear hr1 hr2 hq1 hq2 hx hy hA'
                            have HCOM := Lib.hid (fun W => common_any x y W)
                            go_wp2
                            by_cases hl0 : 0 < x.level
                            · have g1 : decide (0 < x.level) = true := decide_eq_true hl0
                              by_cases hle : x.level = y.level
                              · have HCL := Lib.hid (show clash x y = common x y by unfold clash common meets; rw [g1, decide_eq_true hle]; simp [Bool.and_comm])
                                have g2 : (x.level == y.level) = true := by simpa using hle
                                clear hle
                                refine region_wz (fun W => W.rangeAt b' (o' + i * 5) x.vals ∧ W.rangeAt b' (o' + k * 5) y.vals ∧ W.cell? ⟨b', o' + i * 5, none⟩ = some (.int .i64 x.level) ∧ W.cell? ⟨b', o' + k * 5, none⟩ = some (.int .i64 y.level)) none (by kernel_rfl) ?_
                                apply WZ.take (i := 0) (some 119) rfl rfl (by kernel_rfl) (by kernel_rfl) (by kernel_rfl) (calm_panic _) (by kernel_rfl)
                                case hy => (refine .inl ⟨by kernel_rfl, fun W hC => ?_⟩; (try dsimp only at hC); go_simp; rfl)
                                case hC => exact HC
                                case ha => (simp only [Act.put, List.setIfInBounds_toArray, List.set_cons_zero, List.set_cons_succ]; rfl)
                                apply WZ.take (i := 1) (some 120) rfl rfl (by kernel_rfl) (by kernel_rfl) (by kernel_rfl) (calm_panic _) (by kernel_rfl)
                                case hy => (refine .inl ⟨by kernel_rfl, fun W hC => ?_⟩; (try dsimp only at hC); go_simp; rfl)
                                case hC => exact HC
                                case ha => (simp only [Act.put, List.setIfInBounds_toArray, List.set_cons_zero, List.set_cons_succ]; rfl)
                                apply WZ.take (i := 2) (some 121) rfl rfl (by kernel_rfl) (by kernel_rfl) (by kernel_rfl) (calm_panic _) (by kernel_rfl)
                                case hy => (refine .inl ⟨by kernel_rfl, fun W hC => ?_⟩; (try dsimp only at hC); go_simp; rfl)
                                case hC => exact HC
                                case ha => (simp only [Act.put, List.setIfInBounds_toArray, List.set_cons_zero, List.set_cons_succ]; rfl)
                                apply WZ.take (i := 3) (some 122) rfl rfl (by kernel_rfl) (by kernel_rfl) (by kernel_rfl) (calm_panic _) (by kernel_rfl)
                                case hy => (refine .inl ⟨by kernel_rfl, fun W hC => ?_⟩; (try dsimp only at hC); go_simp; rfl)
                                case hC => exact HC
                                case ha => (simp only [Act.put, List.setIfInBounds_toArray, List.set_cons_zero, List.set_cons_succ]; rfl)
                                apply WZ.take (i := 4) (some 123) rfl rfl (by kernel_rfl) (by kernel_rfl) (by kernel_rfl) (calm_panic _) (by kernel_rfl)
                                case hy => (refine .inl ⟨by kernel_rfl, fun W hC => ?_⟩; (try dsimp only at hC); go_simp; rfl)
                                case hC => exact HC
                                case ha => (simp only [Act.put, List.setIfInBounds_toArray, List.set_cons_zero, List.set_cons_succ]; rfl)
                                apply WZ.take (i := 5) (some 124) rfl rfl (by kernel_rfl) (by kernel_rfl) (by kernel_rfl) (calm_panic _) (by kernel_rfl)
                                case hy => (refine .inl ⟨by kernel_rfl, fun W hC => ?_⟩; (try dsimp only at hC); go_simp; rfl)
                                case hC => exact HC
                                case ha => (simp only [Act.put, List.setIfInBounds_toArray, List.set_cons_zero, List.set_cons_succ]; rfl)
                                apply WZ.take (i := 6) (some 125) rfl rfl (by kernel_rfl) (by kernel_rfl) (by kernel_rfl) (calm_panic _) (by kernel_rfl)
                                case hy => (refine .inl ⟨by kernel_rfl, fun W hC => ?_⟩; (try dsimp only at hC); go_simp; rfl)
                                case hC => exact HC
                                case ha => (simp only [Act.put, List.setIfInBounds_toArray, List.set_cons_zero, List.set_cons_succ]; rfl)
                                apply WZ.take (i := 7) (some 126) rfl rfl (by kernel_rfl) (by kernel_rfl) (by kernel_rfl) (calm_panic _) (by kernel_rfl)
                                case hy => (refine .inl ⟨by kernel_rfl, fun W hC => ?_⟩; (try dsimp only at hC); go_simp; rfl)
                                case hC => exact HC
                                case ha => (simp only [Act.put, List.setIfInBounds_toArray, List.set_cons_zero, List.set_cons_succ]; rfl)
                                apply WZ.take (i := 8) (some 127) rfl rfl (by kernel_rfl) (by kernel_rfl) (by kernel_rfl) (calm_panic _) (by kernel_rfl)
                                case hy => (refine .inl ⟨by kernel_rfl, fun W hC => ?_⟩; (try dsimp only at hC); go_simp; rfl)
                                case hC => exact HC
                                case ha => (simp only [Act.put, List.setIfInBounds_toArray, List.set_cons_zero, List.set_cons_succ]; rfl)
                                apply WZ.take (i := 9) (some 128) rfl rfl (by kernel_rfl) (by kernel_rfl) (by kernel_rfl) (calm_panic _) (by kernel_rfl)
                                case hy => (refine .inl ⟨by kernel_rfl, fun W hC => ?_⟩; (try dsimp only at hC); go_simp; rfl)
                                case hC => exact HC
                                case ha => (simp only [Act.put, List.setIfInBounds_toArray, List.set_cons_zero, List.set_cons_succ]; rfl)
                                apply WZ.take (i := 10) (some 129) rfl rfl (by kernel_rfl) (by kernel_rfl) (by kernel_rfl) (calm_panic _) (by kernel_rfl)
                                case hy => (refine .inl ⟨by kernel_rfl, fun W hC => ?_⟩; (try dsimp only at hC); go_simp; rfl)
                                case hC => exact HC
                                case ha => (simp only [Act.put, List.setIfInBounds_toArray, List.set_cons_zero, List.set_cons_succ]; rfl)
                                apply WZ.take (i := 11) (some 130) rfl rfl (by kernel_rfl) (by kernel_rfl) (by kernel_rfl) (calm_panic _) (by kernel_rfl)
                                case hy => (refine .inl ⟨by kernel_rfl, fun W hC => ?_⟩; (try dsimp only at hC); go_simp; rfl)
                                case hC => exact HC
                                case ha => (simp only [Act.put, List.setIfInBounds_toArray, List.set_cons_zero, List.set_cons_succ]; rfl)
                                apply WZ.take (i := 12) (some 131) rfl rfl (by kernel_rfl) (by kernel_rfl) (by kernel_rfl) (calm_panic _) (by kernel_rfl)
                                case hy => (refine .inl ⟨by kernel_rfl, fun W hC => ?_⟩; (try dsimp only at hC); go_simp; rfl)
                                case hC => exact HC
                                case ha => (simp only [Act.put, List.setIfInBounds_toArray, List.set_cons_zero, List.set_cons_succ]; rfl)
                                apply WZ.take (i := 13) (some 132) rfl rfl (by kernel_rfl) (by kernel_rfl) (by kernel_rfl) (calm_panic _) (by kernel_rfl)
                                case hy => (refine .inl ⟨by kernel_rfl, fun W hC => ?_⟩; (try dsimp only at hC); go_simp; rfl)
                                case hC => exact HC
                                case ha => (simp only [Act.put, List.setIfInBounds_toArray, List.set_cons_zero, List.set_cons_succ]; rfl)
                                apply WZ.take (i := 14) (some 133) rfl rfl (by kernel_rfl) (by kernel_rfl) (by kernel_rfl) (calm_panic _) (by kernel_rfl)
                                case hy => (refine .inl ⟨by kernel_rfl, fun W hC => ?_⟩; (try dsimp only at hC); go_simp; rfl)
                                case hC => exact HC
                                case ha => (simp only [Act.put, List.setIfInBounds_toArray, List.set_cons_zero, List.set_cons_succ]; rfl)
                                apply WZ.take (i := 15) (some 134) rfl rfl (by kernel_rfl) (by kernel_rfl) (by kernel_rfl) (calm_panic _) (by kernel_rfl)
                                case hy => (refine .inl ⟨by kernel_rfl, fun W hC => ?_⟩; (try dsimp only at hC); go_simp; rfl)
                                case hC => exact HC
                                case ha => (simp only [Act.put, List.setIfInBounds_toArray, List.set_cons_zero, List.set_cons_succ]; rfl)
                                apply WZ.take (i := 16) (some 135) rfl rfl (by kernel_rfl) (by kernel_rfl) (by kernel_rfl) (calm_panic _) (by kernel_rfl)
                                case hy => (refine .inl ⟨by kernel_rfl, fun W hC => ?_⟩; (try dsimp only at hC); go_simp; rfl)
                                case hC => exact HC
                                case ha => (simp only [Act.put, List.setIfInBounds_toArray, List.set_cons_zero, List.set_cons_succ]; rfl)
                                apply WZ.take (i := 17) (some 136) rfl rfl (by kernel_rfl) (by kernel_rfl) (by kernel_rfl) (calm_panic _) (by kernel_rfl)
                                case hy => (refine .inl ⟨by kernel_rfl, fun W hC => ?_⟩; (try dsimp only at hC); go_simp; rfl)
                                case hC => exact HC
                                case ha => (simp only [Act.put, List.setIfInBounds_toArray, List.set_cons_zero, List.set_cons_succ]; rfl)
                                apply WZ.take (i := 18) (some 137) rfl rfl (by kernel_rfl) (by kernel_rfl) (by kernel_rfl) (calm_panic _) (by kernel_rfl)
                                case hy => (refine .inl ⟨by kernel_rfl, fun W hC => ?_⟩; (try dsimp only at hC); go_simp; rfl)
                                case hC => exact HC
                                case ha => (simp only [Act.put, List.setIfInBounds_toArray, List.set_cons_zero, List.set_cons_succ]; rfl)
                                apply WZ.take (i := 19) (some 138) rfl rfl (by kernel_rfl) (by kernel_rfl) (by kernel_rfl) (calm_panic _) (by kernel_rfl)
                                case hy => (refine .inl ⟨by kernel_rfl, fun W hC => ?_⟩; (try dsimp only at hC); go_simp; rfl)
                                case hC => exact HC
                                case ha => (simp only [Act.put, List.setIfInBounds_toArray, List.set_cons_zero, List.set_cons_succ]; rfl)
                                apply WZ.take (i := 20) (some 139) rfl rfl (by kernel_rfl) (by kernel_rfl) (by kernel_rfl) (calm_panic _) (by kernel_rfl)
                                case hy => (refine .inl ⟨by kernel_rfl, fun W hC => ?_⟩; (try dsimp only at hC); go_simp; rfl)
                                case hC => exact HC
                                case ha => (simp only [Act.put, List.setIfInBounds_toArray, List.set_cons_zero, List.set_cons_succ]; rfl)
                                apply WZ.take (i := 21) (some 140) rfl rfl (by kernel_rfl) (by kernel_rfl) (by kernel_rfl) (calm_panic _) (by kernel_rfl)
                                case hy => (refine .inl ⟨by kernel_rfl, fun W hC => ?_⟩; (try dsimp only at hC); go_simp; rfl)
                                case hC => exact HC
                                case ha => (simp only [Act.put, List.setIfInBounds_toArray, List.set_cons_zero, List.set_cons_succ]; rfl)
                                apply WZ.take (i := 22) (some 141) rfl rfl (by kernel_rfl) (by kernel_rfl) (by kernel_rfl) (calm_panic _) (by kernel_rfl)
                                case hy => (refine .inl ⟨by kernel_rfl, fun W hC => ?_⟩; (try dsimp only at hC); go_simp; rfl)
                                case hC => exact HC
                                case ha => (simp only [Act.put, List.setIfInBounds_toArray, List.set_cons_zero, List.set_cons_succ]; rfl)
                                apply WZ.take (i := 23) (some 142) rfl rfl (by kernel_rfl) (by kernel_rfl) (by kernel_rfl) (calm_panic _) (by kernel_rfl)
                                case hy => first | (apply yieldsIf_load_mid (by kernel_rfl) _ _ rfl _ _ rfl; (case hS => (intro W hC; exact (show World.rangeAt _ _ _ (Fi.vals _) from hC.1))); (case hu => exact Try.underlying76); (case hd => rfl); (case hi => kernel_rfl)) | (apply yieldsIf_load_mid (by kernel_rfl) _ _ rfl _ _ rfl; (case hS => (intro W hC; exact (show World.rangeAt _ _ _ (Fi.vals _) from hC.2.1))); (case hu => exact Try.underlying76); (case hd => rfl); (case hi => kernel_rfl)) | (apply yieldsIf_load_mid (by kernel_rfl) _ _ rfl _ _ rfl; (case hS => (intro W hC; exact (show World.rangeAt _ _ _ (Fi.vals _) from hC.2.2.1))); (case hu => exact Try.underlying76); (case hd => rfl); (case hi => kernel_rfl)) | (apply yieldsIf_load_mid (by kernel_rfl) _ _ rfl _ _ rfl; (case hS => (intro W hC; exact (show World.rangeAt _ _ _ (Fi.vals _) from hC.2.2.2.1))); (case hu => exact Try.underlying76); (case hd => rfl); (case hi => kernel_rfl)) | (apply yieldsIf_load_mid (by kernel_rfl) _ _ rfl _ _ rfl; (case hS => (intro W hC; exact (show World.rangeAt _ _ _ (Fi.vals _) from hC.2.2.2))); (case hu => exact Try.underlying76); (case hd => rfl); (case hi => kernel_rfl)) | (apply yieldsIf_load_mid (by kernel_rfl) _ _ rfl _ _ rfl; (case hS => (intro W hC; exact (show World.rangeAt _ _ _ (Fi.vals _) from hC.2.2))); (case hu => exact Try.underlying76); (case hd => rfl); (case hi => kernel_rfl)) | (apply yieldsIf_load_mid (by kernel_rfl) _ _ rfl _ _ rfl; (case hS => (intro W hC; exact (show World.rangeAt _ _ _ (Fi.vals _) from hC.2))); (case hu => exact Try.underlying76); (case hd => rfl); (case hi => kernel_rfl)) | (apply yieldsIf_load_mid (by kernel_rfl) _ _ rfl _ _ rfl; (case hS => (intro W hC; exact (show World.rangeAt _ _ _ (Fi.vals _) from hC))); (case hu => exact Try.underlying76); (case hd => rfl); (case hi => kernel_rfl))
                                case hC => exact HC
                                case ha => (simp only [Act.put, List.setIfInBounds_toArray, List.set_cons_zero, List.set_cons_succ]; rfl)
                                apply WZ.take (i := 24) (some 143) rfl rfl (by kernel_rfl) (by kernel_rfl) (by kernel_rfl) (calm_panic _) (by kernel_rfl)
                                case hy => (refine .inl ⟨by kernel_rfl, fun W hC => ?_⟩; (try dsimp only at hC); go_simp; rfl)
                                case hC => exact HC
                                case ha => (simp only [Act.put, List.setIfInBounds_toArray, List.set_cons_zero, List.set_cons_succ]; rfl)
                                apply WZ.take (i := 25) (some 144) rfl rfl (by kernel_rfl) (by kernel_rfl) (by kernel_rfl) (calm_panic _) (by kernel_rfl)
                                case hy => (refine .inl ⟨by kernel_rfl, fun W hC => ?_⟩; (try dsimp only at hC); go_simp; rfl)
                                case hC => exact HC
                                case ha => (simp only [Act.put, List.setIfInBounds_toArray, List.set_cons_zero, List.set_cons_succ]; rfl)
                                apply WZ.take (i := 26) (some 145) rfl rfl (by kernel_rfl) (by kernel_rfl) (by kernel_rfl) (calm_panic _) (by kernel_rfl)
                                case hy => (refine .inl ⟨by kernel_rfl, fun W hC => ?_⟩; (try dsimp only at hC); go_simp; rfl)
                                case hC => exact HC
                                case ha => (simp only [Act.put, List.setIfInBounds_toArray, List.set_cons_zero, List.set_cons_succ]; rfl)
                                apply WZ.take (i := 27) (some 146) rfl rfl (by kernel_rfl) (by kernel_rfl) (by kernel_rfl) (calm_panic _) (by kernel_rfl)
                                case hy => first | (apply yieldsIf_load_mid (by kernel_rfl) _ _ rfl _ _ rfl; (case hS => (intro W hC; exact (show World.rangeAt _ _ _ (Fi.vals _) from hC.1))); (case hu => exact Try.underlying76); (case hd => rfl); (case hi => kernel_rfl)) | (apply yieldsIf_load_mid (by kernel_rfl) _ _ rfl _ _ rfl; (case hS => (intro W hC; exact (show World.rangeAt _ _ _ (Fi.vals _) from hC.2.1))); (case hu => exact Try.underlying76); (case hd => rfl); (case hi => kernel_rfl)) | (apply yieldsIf_load_mid (by kernel_rfl) _ _ rfl _ _ rfl; (case hS => (intro W hC; exact (show World.rangeAt _ _ _ (Fi.vals _) from hC.2.2.1))); (case hu => exact Try.underlying76); (case hd => rfl); (case hi => kernel_rfl)) | (apply yieldsIf_load_mid (by kernel_rfl) _ _ rfl _ _ rfl; (case hS => (intro W hC; exact (show World.rangeAt _ _ _ (Fi.vals _) from hC.2.2.2.1))); (case hu => exact Try.underlying76); (case hd => rfl); (case hi => kernel_rfl)) | (apply yieldsIf_load_mid (by kernel_rfl) _ _ rfl _ _ rfl; (case hS => (intro W hC; exact (show World.rangeAt _ _ _ (Fi.vals _) from hC.2.2.2))); (case hu => exact Try.underlying76); (case hd => rfl); (case hi => kernel_rfl)) | (apply yieldsIf_load_mid (by kernel_rfl) _ _ rfl _ _ rfl; (case hS => (intro W hC; exact (show World.rangeAt _ _ _ (Fi.vals _) from hC.2.2))); (case hu => exact Try.underlying76); (case hd => rfl); (case hi => kernel_rfl)) | (apply yieldsIf_load_mid (by kernel_rfl) _ _ rfl _ _ rfl; (case hS => (intro W hC; exact (show World.rangeAt _ _ _ (Fi.vals _) from hC.2))); (case hu => exact Try.underlying76); (case hd => rfl); (case hi => kernel_rfl)) | (apply yieldsIf_load_mid (by kernel_rfl) _ _ rfl _ _ rfl; (case hS => (intro W hC; exact (show World.rangeAt _ _ _ (Fi.vals _) from hC))); (case hu => exact Try.underlying76); (case hd => rfl); (case hi => kernel_rfl))
                                case hC => exact HC
                                case ha => (simp only [Act.put, List.setIfInBounds_toArray, List.set_cons_zero, List.set_cons_succ]; rfl)
                                -- 28
                                refine WZ.one (i := 28) rfl (by kernel_rfl) ?_
                                conv => arg 4; arg 1; whnf
                                go_wp2_with (go_at_call 41; refine (HCOM.out _).mono ?_; rintro e w4 ⟨rfl, hb4⟩)
                                have HB4 := Lib.hid (HC3.out.trans ((below_of_drew' hb4).mono HC3.out.size))
                                have hr1 := rangeAt_below HC.1 (B := wy.heap.size) hb4 HBL.out
                                have hr2 := rangeAt_below HC.2.1 (B := wy.heap.size) hb4 HBL.out
                                have hq1 : w4.cell? ⟨b', o' + i * 5, none⟩ = some (.int .i64 x.level) := hr1 0 _ rfl
                                have hq2 : w4.cell? ⟨b', o' + k * 5, none⟩ = some (.int .i64 y.level) := hr2 0 _ rfl
                                clear HC hb4
                                have HC : w4.rangeAt b' (o' + i * 5) x.vals ∧ w4.rangeAt b' (o' + k * 5) y.vals ∧ w4.cell? ⟨b', o' + i * 5, none⟩ = some (.int .i64 x.level) ∧ w4.cell? ⟨b', o' + k * 5, none⟩ = some (.int .i64 y.level) := ⟨hr1, hr2, hq1, hq2⟩
                                clear hr1 hr2 hq1 hq2
                                refine ⟨HC, ?_⟩
                                apply WZ.take (i := 29) (some 148) rfl rfl (by kernel_rfl) (by kernel_rfl) (by kernel_rfl) (calm_panic _) (by kernel_rfl)
                                case hy => (refine .inl ⟨by kernel_rfl, fun W hC => ?_⟩; (try dsimp only at hC); go_simp; rfl)
                                case hC => exact HC
                                case ha => (simp only [Act.put, List.setIfInBounds_toArray, List.set_cons_zero, List.set_cons_succ]; rfl)
                                refine WZ.done (by kernel_rfl) ?_ _
                                simp only [Calm, Exit.then]
                                clear HC
                                cases hcm : common x y with
                                | true =>
                                  have HF := Lib.hid (show rm = (40, []) by rw [HRF.out]; exact refM_order (by rw [HM0.out]; exact HDL.out) HAL.out (HUO.out (by rw [HCL.out]; exact hcm)).symm)
                                  have HM4 := Lib.hid (ApR.below HR.out (HQ.out.trans (HB4.out.mono HQ.out.size)) HR.out.2.1)
                                  go_wp2_with
                                    (show wpList _ _ _ ({ dst := none, op := Op.store _ (Operand.tmp 4) (Operand.tmp 149), type := _, pos := _, after := _, guard := _ } :: _) _ _; refine wpList_store_mid rfl 44 (.tmp 4) (.tmp 149) rfl (w.heap.size + 1 + 1) 0 (stC none 0 0 0 0) rfl rfl HM4.out.there (by kernel_rfl) (stC_one _ _ _ _ _) ?_; refine HM4.out.putW none 0 0 0 0 ?_; intro w6 HB6 d0 d1 d2)
                                  (try simp only [Exit.inBlock, Exit.then])
                                  exact bodyPost_ret (app_resultsR rfl _ _ _ none 0 0 0 0 _ rfl rfl d0 d1 d2) rfl (AppOut.bad HF.out (by decide) rfl HB6.out.1)
                                | false =>
                                  have HX := Lib.hid (HUS.out (by rw [HCL.out]; exact hcm))
                                  go_wp2
                                  exact ⟨⟨k + 1, by first | rfl | go_num, by omega, HX, HB4⟩, by simp [intOf]; omega⟩
                              · have HX := Lib.hid (HUS.out (by unfold clash; rw [decide_eq_false hle]; simp))
                                have g2 : (x.level == y.level) = false := by simpa using hle
                                clear hle
                                refine region_wz (fun W => W.rangeAt b' (o' + i * 5) x.vals ∧ W.rangeAt b' (o' + k * 5) y.vals ∧ W.cell? ⟨b', o' + i * 5, none⟩ = some (.int .i64 x.level) ∧ W.cell? ⟨b', o' + k * 5, none⟩ = some (.int .i64 y.level)) none (by kernel_rfl) ?_
                                apply WZ.take (i := 0) (some 119) rfl rfl (by kernel_rfl) (by kernel_rfl) (by kernel_rfl) (calm_panic _) (by kernel_rfl)
                                case hy => (refine .inl ⟨by kernel_rfl, fun W hC => ?_⟩; (try dsimp only at hC); go_simp; rfl)
                                case hC => exact HC
                                case ha => (simp only [Act.put, List.setIfInBounds_toArray, List.set_cons_zero, List.set_cons_succ]; rfl)
                                apply WZ.take (i := 1) (some 120) rfl rfl (by kernel_rfl) (by kernel_rfl) (by kernel_rfl) (calm_panic _) (by kernel_rfl)
                                case hy => (refine .inl ⟨by kernel_rfl, fun W hC => ?_⟩; (try dsimp only at hC); go_simp; rfl)
                                case hC => exact HC
                                case ha => (simp only [Act.put, List.setIfInBounds_toArray, List.set_cons_zero, List.set_cons_succ]; rfl)
                                apply WZ.take (i := 2) (some 121) rfl rfl (by kernel_rfl) (by kernel_rfl) (by kernel_rfl) (calm_panic _) (by kernel_rfl)
                                case hy => (refine .inl ⟨by kernel_rfl, fun W hC => ?_⟩; (try dsimp only at hC); go_simp; rfl)
                                case hC => exact HC
                                case ha => (simp only [Act.put, List.setIfInBounds_toArray, List.set_cons_zero, List.set_cons_succ]; rfl)
                                apply WZ.take (i := 3) (some 122) rfl rfl (by kernel_rfl) (by kernel_rfl) (by kernel_rfl) (calm_panic _) (by kernel_rfl)
                                case hy => (refine .inl ⟨by kernel_rfl, fun W hC => ?_⟩; (try dsimp only at hC); go_simp; rfl)
                                case hC => exact HC
                                case ha => (simp only [Act.put, List.setIfInBounds_toArray, List.set_cons_zero, List.set_cons_succ]; rfl)
                                apply WZ.take (i := 4) (some 123) rfl rfl (by kernel_rfl) (by kernel_rfl) (by kernel_rfl) (calm_panic _) (by kernel_rfl)
                                case hy => (refine .inl ⟨by kernel_rfl, fun W hC => ?_⟩; (try dsimp only at hC); go_simp; rfl)
                                case hC => exact HC
                                case ha => (simp only [Act.put, List.setIfInBounds_toArray, List.set_cons_zero, List.set_cons_succ]; rfl)
                                apply WZ.take (i := 5) (some 124) rfl rfl (by kernel_rfl) (by kernel_rfl) (by kernel_rfl) (calm_panic _) (by kernel_rfl)
                                case hy => (refine .inl ⟨by kernel_rfl, fun W hC => ?_⟩; (try dsimp only at hC); go_simp; rfl)
                                case hC => exact HC
                                case ha => (simp only [Act.put, List.setIfInBounds_toArray, List.set_cons_zero, List.set_cons_succ]; rfl)
                                apply WZ.take (i := 6) (some 125) rfl rfl (by kernel_rfl) (by kernel_rfl) (by kernel_rfl) (calm_panic _) (by kernel_rfl)
                                case hy => (refine .inl ⟨by kernel_rfl, fun W hC => ?_⟩; (try dsimp only at hC); go_simp; rfl)
                                case hC => exact HC
                                case ha => (simp only [Act.put, List.setIfInBounds_toArray, List.set_cons_zero, List.set_cons_succ]; rfl)
                                apply WZ.take (i := 7) (some 126) rfl rfl (by kernel_rfl) (by kernel_rfl) (by kernel_rfl) (calm_panic _) (by kernel_rfl)
                                case hy => (refine .inl ⟨by kernel_rfl, fun W hC => ?_⟩; (try dsimp only at hC); go_simp; rfl)
                                case hC => exact HC
                                case ha => (simp only [Act.put, List.setIfInBounds_toArray, List.set_cons_zero, List.set_cons_succ]; rfl)
                                apply WZ.take (i := 8) (some 127) rfl rfl (by kernel_rfl) (by kernel_rfl) (by kernel_rfl) (calm_panic _) (by kernel_rfl)
                                case hy => (refine .inl ⟨by kernel_rfl, fun W hC => ?_⟩; (try dsimp only at hC); go_simp; rfl)
                                case hC => exact HC
                                case ha => (simp only [Act.put, List.setIfInBounds_toArray, List.set_cons_zero, List.set_cons_succ]; rfl)
                                apply WZ.take (i := 9) (some 128) rfl rfl (by kernel_rfl) (by kernel_rfl) (by kernel_rfl) (calm_panic _) (by kernel_rfl)
                                case hy => (refine .inl ⟨by kernel_rfl, fun W hC => ?_⟩; (try dsimp only at hC); go_simp; rfl)
                                case hC => exact HC
                                case ha => (simp only [Act.put, List.setIfInBounds_toArray, List.set_cons_zero, List.set_cons_succ]; rfl)
                                apply WZ.take (i := 10) (some 129) rfl rfl (by kernel_rfl) (by kernel_rfl) (by kernel_rfl) (calm_panic _) (by kernel_rfl)
                                case hy => (refine .inl ⟨by kernel_rfl, fun W hC => ?_⟩; (try dsimp only at hC); go_simp; rfl)
                                case hC => exact HC
                                case ha => (simp only [Act.put, List.setIfInBounds_toArray, List.set_cons_zero, List.set_cons_succ]; rfl)
                                apply WZ.take (i := 11) (some 130) rfl rfl (by kernel_rfl) (by kernel_rfl) (by kernel_rfl) (calm_panic _) (by kernel_rfl)
                                case hy => (refine .inl ⟨by kernel_rfl, fun W hC => ?_⟩; (try dsimp only at hC); go_simp; rfl)
                                case hC => exact HC
                                case ha => (simp only [Act.put, List.setIfInBounds_toArray, List.set_cons_zero, List.set_cons_succ]; rfl)
                                apply WZ.take (i := 12) (some 131) rfl rfl (by kernel_rfl) (by kernel_rfl) (by kernel_rfl) (calm_panic _) (by kernel_rfl)
                                case hy => (refine .inl ⟨by kernel_rfl, fun W hC => ?_⟩; (try dsimp only at hC); go_simp; rfl)
                                case hC => exact HC
                                case ha => (simp only [Act.put, List.setIfInBounds_toArray, List.set_cons_zero, List.set_cons_succ]; rfl)
                                apply WZ.take (i := 13) (some 132) rfl rfl (by kernel_rfl) (by kernel_rfl) (by kernel_rfl) (calm_panic _) (by kernel_rfl)
                                case hy => (refine .inl ⟨by kernel_rfl, fun W hC => ?_⟩; (try dsimp only at hC); go_simp; rfl)
                                case hC => exact HC
                                case ha => (simp only [Act.put, List.setIfInBounds_toArray, List.set_cons_zero, List.set_cons_succ]; rfl)
                                apply WZ.take (i := 14) (some 133) rfl rfl (by kernel_rfl) (by kernel_rfl) (by kernel_rfl) (calm_panic _) (by kernel_rfl)
                                case hy => (refine .inl ⟨by kernel_rfl, fun W hC => ?_⟩; (try dsimp only at hC); go_simp; rfl)
                                case hC => exact HC
                                case ha => (simp only [Act.put, List.setIfInBounds_toArray, List.set_cons_zero, List.set_cons_succ]; rfl)
                                apply WZ.take (i := 15) (some 134) rfl rfl (by kernel_rfl) (by kernel_rfl) (by kernel_rfl) (calm_panic _) (by kernel_rfl)
                                case hy => (refine .inl ⟨by kernel_rfl, fun W hC => ?_⟩; (try dsimp only at hC); go_simp; rfl)
                                case hC => exact HC
                                case ha => (simp only [Act.put, List.setIfInBounds_toArray, List.set_cons_zero, List.set_cons_succ]; rfl)
                                apply WZ.take (i := 16) (some 135) rfl rfl (by kernel_rfl) (by kernel_rfl) (by kernel_rfl) (calm_panic _) (by kernel_rfl)
                                case hy => (refine .inl ⟨by kernel_rfl, fun W hC => ?_⟩; (try dsimp only at hC); go_simp; rfl)
                                case hC => exact HC
                                case ha => (simp only [Act.put, List.setIfInBounds_toArray, List.set_cons_zero, List.set_cons_succ]; rfl)
                                apply WZ.take (i := 17) (some 136) rfl rfl (by kernel_rfl) (by kernel_rfl) (by kernel_rfl) (calm_panic _) (by kernel_rfl)
                                case hy => (refine .inl ⟨by kernel_rfl, fun W hC => ?_⟩; (try dsimp only at hC); go_simp; rfl)
                                case hC => exact HC
                                case ha => (simp only [Act.put, List.setIfInBounds_toArray, List.set_cons_zero, List.set_cons_succ]; rfl)
                                apply WZ.take (i := 18) (some 137) rfl rfl (by kernel_rfl) (by kernel_rfl) (by kernel_rfl) (calm_panic _) (by kernel_rfl)
                                case hy => (refine .inl ⟨by kernel_rfl, fun W hC => ?_⟩; (try dsimp only at hC); go_simp; rfl)
                                case hC => exact HC
                                case ha => (simp only [Act.put, List.setIfInBounds_toArray, List.set_cons_zero, List.set_cons_succ]; rfl)
                                apply WZ.take (i := 19) (some 138) rfl rfl (by kernel_rfl) (by kernel_rfl) (by kernel_rfl) (calm_panic _) (by kernel_rfl)
                                case hy => (refine .inl ⟨by kernel_rfl, fun W hC => ?_⟩; (try dsimp only at hC); go_simp; rfl)
                                case hC => exact HC
                                case ha => (simp only [Act.put, List.setIfInBounds_toArray, List.set_cons_zero, List.set_cons_succ]; rfl)
                                apply WZ.take (i := 20) (some 139) rfl rfl (by kernel_rfl) (by kernel_rfl) (by kernel_rfl) (calm_panic _) (by kernel_rfl)
                                case hy => exact .inr ⟨by kernel_rfl, rfl⟩
                                case hC => exact HC
                                case ha => (simp only [Act.put, List.setIfInBounds_toArray, List.set_cons_zero, List.set_cons_succ]; rfl)
                                apply WZ.take (i := 21) (some 140) rfl rfl (by kernel_rfl) (by kernel_rfl) (by kernel_rfl) (calm_panic _) (by kernel_rfl)
                                case hy => exact .inr ⟨by kernel_rfl, rfl⟩
                                case hC => exact HC
                                case ha => (simp only [Act.put, List.setIfInBounds_toArray, List.set_cons_zero, List.set_cons_succ]; rfl)
                                apply WZ.take (i := 22) (some 141) rfl rfl (by kernel_rfl) (by kernel_rfl) (by kernel_rfl) (calm_panic _) (by kernel_rfl)
                                case hy => exact .inr ⟨by kernel_rfl, rfl⟩
                                case hC => exact HC
                                case ha => (simp only [Act.put, List.setIfInBounds_toArray, List.set_cons_zero, List.set_cons_succ]; rfl)
                                apply WZ.take (i := 23) (some 142) rfl rfl (by kernel_rfl) (by kernel_rfl) (by kernel_rfl) (calm_panic _) (by kernel_rfl)
                                case hy => exact .inr ⟨by kernel_rfl, rfl⟩
                                case hC => exact HC
                                case ha => (simp only [Act.put, List.setIfInBounds_toArray, List.set_cons_zero, List.set_cons_succ]; rfl)
                                apply WZ.take (i := 24) (some 143) rfl rfl (by kernel_rfl) (by kernel_rfl) (by kernel_rfl) (calm_panic _) (by kernel_rfl)
                                case hy => exact .inr ⟨by kernel_rfl, rfl⟩
                                case hC => exact HC
                                case ha => (simp only [Act.put, List.setIfInBounds_toArray, List.set_cons_zero, List.set_cons_succ]; rfl)
                                apply WZ.take (i := 25) (some 144) rfl rfl (by kernel_rfl) (by kernel_rfl) (by kernel_rfl) (calm_panic _) (by kernel_rfl)
                                case hy => exact .inr ⟨by kernel_rfl, rfl⟩
                                case hC => exact HC
                                case ha => (simp only [Act.put, List.setIfInBounds_toArray, List.set_cons_zero, List.set_cons_succ]; rfl)
                                apply WZ.take (i := 26) (some 145) rfl rfl (by kernel_rfl) (by kernel_rfl) (by kernel_rfl) (calm_panic _) (by kernel_rfl)
                                case hy => exact .inr ⟨by kernel_rfl, rfl⟩
                                case hC => exact HC
                                case ha => (simp only [Act.put, List.setIfInBounds_toArray, List.set_cons_zero, List.set_cons_succ]; rfl)
                                apply WZ.take (i := 27) (some 146) rfl rfl (by kernel_rfl) (by kernel_rfl) (by kernel_rfl) (calm_panic _) (by kernel_rfl)
                                case hy => exact .inr ⟨by kernel_rfl, rfl⟩
                                case hC => exact HC
                                case ha => (simp only [Act.put, List.setIfInBounds_toArray, List.set_cons_zero, List.set_cons_succ]; rfl)
                                apply WZ.take (i := 28) (some 147) rfl rfl (by kernel_rfl) (by kernel_rfl) (by kernel_rfl) (calm_panic _) (by kernel_rfl)
                                case hy => exact .inr ⟨by kernel_rfl, rfl⟩
                                case hC => exact HC
                                case ha => (simp only [Act.put, List.setIfInBounds_toArray, List.set_cons_zero, List.set_cons_succ]; rfl)
                                apply WZ.take (i := 29) (some 148) rfl rfl (by kernel_rfl) (by kernel_rfl) (by kernel_rfl) (calm_panic _) (by kernel_rfl)
                                case hy => (refine .inl ⟨by kernel_rfl, fun W hC => ?_⟩; (try dsimp only at hC); go_simp; rfl)
                                case hC => exact HC
                                case ha => (simp only [Act.put, List.setIfInBounds_toArray, List.set_cons_zero, List.set_cons_succ]; rfl)
                                refine WZ.done (by kernel_rfl) ?_ _
                                simp only [Calm, Exit.then]
                                clear HC
                                go_wp2
                                exact ⟨⟨k + 1, by first | rfl | go_num, by omega, HX, Lib.hid HC3.out.drew⟩, by simp [intOf]; omega⟩
                            · have g1 : decide (0 < x.level) = false := decide_eq_false hl0
                              have HX := Lib.hid (HUS.out (by unfold clash; rw [g1]; simp))
                              refine region_wz (fun W => W.rangeAt b' (o' + i * 5) x.vals ∧ W.rangeAt b' (o' + k * 5) y.vals ∧ W.cell? ⟨b', o' + i * 5, none⟩ = some (.int .i64 x.level) ∧ W.cell? ⟨b', o' + k * 5, none⟩ = some (.int .i64 y.level)) none (by kernel_rfl) ?_
                              apply WZ.take (i := 0) (some 119) rfl rfl (by kernel_rfl) (by kernel_rfl) (by kernel_rfl) (calm_panic _) (by kernel_rfl)
                              case hy => (refine .inl ⟨by kernel_rfl, fun W hC => ?_⟩; (try dsimp only at hC); go_simp; rfl)
                              case hC => exact HC
                              case ha => (simp only [Act.put, List.setIfInBounds_toArray, List.set_cons_zero, List.set_cons_succ]; rfl)
                              apply WZ.take (i := 1) (some 120) rfl rfl (by kernel_rfl) (by kernel_rfl) (by kernel_rfl) (calm_panic _) (by kernel_rfl)
                              case hy => (refine .inl ⟨by kernel_rfl, fun W hC => ?_⟩; (try dsimp only at hC); go_simp; rfl)
                              case hC => exact HC
                              case ha => (simp only [Act.put, List.setIfInBounds_toArray, List.set_cons_zero, List.set_cons_succ]; rfl)
                              apply WZ.take (i := 2) (some 121) rfl rfl (by kernel_rfl) (by kernel_rfl) (by kernel_rfl) (calm_panic _) (by kernel_rfl)
                              case hy => (refine .inl ⟨by kernel_rfl, fun W hC => ?_⟩; (try dsimp only at hC); go_simp; rfl)
                              case hC => exact HC
                              case ha => (simp only [Act.put, List.setIfInBounds_toArray, List.set_cons_zero, List.set_cons_succ]; rfl)
                              apply WZ.take (i := 3) (some 122) rfl rfl (by kernel_rfl) (by kernel_rfl) (by kernel_rfl) (calm_panic _) (by kernel_rfl)
                              case hy => (refine .inl ⟨by kernel_rfl, fun W hC => ?_⟩; (try dsimp only at hC); go_simp; rfl)
                              case hC => exact HC
                              case ha => (simp only [Act.put, List.setIfInBounds_toArray, List.set_cons_zero, List.set_cons_succ]; rfl)
                              apply WZ.take (i := 4) (some 123) rfl rfl (by kernel_rfl) (by kernel_rfl) (by kernel_rfl) (calm_panic _) (by kernel_rfl)
                              case hy => (refine .inl ⟨by kernel_rfl, fun W hC => ?_⟩; (try dsimp only at hC); go_simp; rfl)
                              case hC => exact HC
                              case ha => (simp only [Act.put, List.setIfInBounds_toArray, List.set_cons_zero, List.set_cons_succ]; rfl)
                              apply WZ.take (i := 5) (some 124) rfl rfl (by kernel_rfl) (by kernel_rfl) (by kernel_rfl) (calm_panic _) (by kernel_rfl)
                              case hy => (refine .inl ⟨by kernel_rfl, fun W hC => ?_⟩; (try dsimp only at hC); go_simp; rfl)
                              case hC => exact HC
                              case ha => (simp only [Act.put, List.setIfInBounds_toArray, List.set_cons_zero, List.set_cons_succ]; rfl)
                              apply WZ.take (i := 6) (some 125) rfl rfl (by kernel_rfl) (by kernel_rfl) (by kernel_rfl) (calm_panic _) (by kernel_rfl)
                              case hy => (refine .inl ⟨by kernel_rfl, fun W hC => ?_⟩; (try dsimp only at hC); go_simp; rfl)
                              case hC => exact HC
                              case ha => (simp only [Act.put, List.setIfInBounds_toArray, List.set_cons_zero, List.set_cons_succ]; rfl)
                              apply WZ.take (i := 7) (some 126) rfl rfl (by kernel_rfl) (by kernel_rfl) (by kernel_rfl) (calm_panic _) (by kernel_rfl)
                              case hy => exact .inr ⟨by kernel_rfl, rfl⟩
                              case hC => exact HC
                              case ha => (simp only [Act.put, List.setIfInBounds_toArray, List.set_cons_zero, List.set_cons_succ]; rfl)
                              apply WZ.take (i := 8) (some 127) rfl rfl (by kernel_rfl) (by kernel_rfl) (by kernel_rfl) (calm_panic _) (by kernel_rfl)
                              case hy => exact .inr ⟨by kernel_rfl, rfl⟩
                              case hC => exact HC
                              case ha => (simp only [Act.put, List.setIfInBounds_toArray, List.set_cons_zero, List.set_cons_succ]; rfl)
                              apply WZ.take (i := 9) (some 128) rfl rfl (by kernel_rfl) (by kernel_rfl) (by kernel_rfl) (calm_panic _) (by kernel_rfl)
                              case hy => exact .inr ⟨by kernel_rfl, rfl⟩
                              case hC => exact HC
                              case ha => (simp only [Act.put, List.setIfInBounds_toArray, List.set_cons_zero, List.set_cons_succ]; rfl)
                              apply WZ.take (i := 10) (some 129) rfl rfl (by kernel_rfl) (by kernel_rfl) (by kernel_rfl) (calm_panic _) (by kernel_rfl)
                              case hy => exact .inr ⟨by kernel_rfl, rfl⟩
                              case hC => exact HC
                              case ha => (simp only [Act.put, List.setIfInBounds_toArray, List.set_cons_zero, List.set_cons_succ]; rfl)
                              apply WZ.take (i := 11) (some 130) rfl rfl (by kernel_rfl) (by kernel_rfl) (by kernel_rfl) (calm_panic _) (by kernel_rfl)
                              case hy => exact .inr ⟨by kernel_rfl, rfl⟩
                              case hC => exact HC
                              case ha => (simp only [Act.put, List.setIfInBounds_toArray, List.set_cons_zero, List.set_cons_succ]; rfl)
                              apply WZ.take (i := 12) (some 131) rfl rfl (by kernel_rfl) (by kernel_rfl) (by kernel_rfl) (calm_panic _) (by kernel_rfl)
                              case hy => exact .inr ⟨by kernel_rfl, rfl⟩
                              case hC => exact HC
                              case ha => (simp only [Act.put, List.setIfInBounds_toArray, List.set_cons_zero, List.set_cons_succ]; rfl)
                              apply WZ.take (i := 13) (some 132) rfl rfl (by kernel_rfl) (by kernel_rfl) (by kernel_rfl) (calm_panic _) (by kernel_rfl)
                              case hy => exact .inr ⟨by kernel_rfl, rfl⟩
                              case hC => exact HC
                              case ha => (simp only [Act.put, List.setIfInBounds_toArray, List.set_cons_zero, List.set_cons_succ]; rfl)
                              apply WZ.take (i := 14) (some 133) rfl rfl (by kernel_rfl) (by kernel_rfl) (by kernel_rfl) (calm_panic _) (by kernel_rfl)
                              case hy => exact .inr ⟨by kernel_rfl, rfl⟩
                              case hC => exact HC
                              case ha => (simp only [Act.put, List.setIfInBounds_toArray, List.set_cons_zero, List.set_cons_succ]; rfl)
                              apply WZ.take (i := 15) (some 134) rfl rfl (by kernel_rfl) (by kernel_rfl) (by kernel_rfl) (calm_panic _) (by kernel_rfl)
                              case hy => exact .inr ⟨by kernel_rfl, rfl⟩
                              case hC => exact HC
                              case ha => (simp only [Act.put, List.setIfInBounds_toArray, List.set_cons_zero, List.set_cons_succ]; rfl)
                              apply WZ.take (i := 16) (some 135) rfl rfl (by kernel_rfl) (by kernel_rfl) (by kernel_rfl) (calm_panic _) (by kernel_rfl)
                              case hy => exact .inr ⟨by kernel_rfl, rfl⟩
                              case hC => exact HC
                              case ha => (simp only [Act.put, List.setIfInBounds_toArray, List.set_cons_zero, List.set_cons_succ]; rfl)
                              apply WZ.take (i := 17) (some 136) rfl rfl (by kernel_rfl) (by kernel_rfl) (by kernel_rfl) (calm_panic _) (by kernel_rfl)
                              case hy => exact .inr ⟨by kernel_rfl, rfl⟩
                              case hC => exact HC
                              case ha => (simp only [Act.put, List.setIfInBounds_toArray, List.set_cons_zero, List.set_cons_succ]; rfl)
                              apply WZ.take (i := 18) (some 137) rfl rfl (by kernel_rfl) (by kernel_rfl) (by kernel_rfl) (calm_panic _) (by kernel_rfl)
                              case hy => (refine .inl ⟨by kernel_rfl, fun W hC => ?_⟩; (try dsimp only at hC); go_simp; rfl)
                              case hC => exact HC
                              case ha => (simp only [Act.put, List.setIfInBounds_toArray, List.set_cons_zero, List.set_cons_succ]; rfl)
                              apply WZ.take (i := 19) (some 138) rfl rfl (by kernel_rfl) (by kernel_rfl) (by kernel_rfl) (calm_panic _) (by kernel_rfl)
                              case hy => (refine .inl ⟨by kernel_rfl, fun W hC => ?_⟩; (try dsimp only at hC); go_simp; rfl)
                              case hC => exact HC
                              case ha => (simp only [Act.put, List.setIfInBounds_toArray, List.set_cons_zero, List.set_cons_succ]; rfl)
                              apply WZ.take (i := 20) (some 139) rfl rfl (by kernel_rfl) (by kernel_rfl) (by kernel_rfl) (calm_panic _) (by kernel_rfl)
                              case hy => exact .inr ⟨by kernel_rfl, rfl⟩
                              case hC => exact HC
                              case ha => (simp only [Act.put, List.setIfInBounds_toArray, List.set_cons_zero, List.set_cons_succ]; rfl)
                              apply WZ.take (i := 21) (some 140) rfl rfl (by kernel_rfl) (by kernel_rfl) (by kernel_rfl) (calm_panic _) (by kernel_rfl)
                              case hy => exact .inr ⟨by kernel_rfl, rfl⟩
                              case hC => exact HC
                              case ha => (simp only [Act.put, List.setIfInBounds_toArray, List.set_cons_zero, List.set_cons_succ]; rfl)
                              apply WZ.take (i := 22) (some 141) rfl rfl (by kernel_rfl) (by kernel_rfl) (by kernel_rfl) (calm_panic _) (by kernel_rfl)
                              case hy => exact .inr ⟨by kernel_rfl, rfl⟩
                              case hC => exact HC
                              case ha => (simp only [Act.put, List.setIfInBounds_toArray, List.set_cons_zero, List.set_cons_succ]; rfl)
                              apply WZ.take (i := 23) (some 142) rfl rfl (by kernel_rfl) (by kernel_rfl) (by kernel_rfl) (calm_panic _) (by kernel_rfl)
                              case hy => exact .inr ⟨by kernel_rfl, rfl⟩
                              case hC => exact HC
                              case ha => (simp only [Act.put, List.setIfInBounds_toArray, List.set_cons_zero, List.set_cons_succ]; rfl)
                              apply WZ.take (i := 24) (some 143) rfl rfl (by kernel_rfl) (by kernel_rfl) (by kernel_rfl) (calm_panic _) (by kernel_rfl)
                              case hy => exact .inr ⟨by kernel_rfl, rfl⟩
                              case hC => exact HC
                              case ha => (simp only [Act.put, List.setIfInBounds_toArray, List.set_cons_zero, List.set_cons_succ]; rfl)
                              apply WZ.take (i := 25) (some 144) rfl rfl (by kernel_rfl) (by kernel_rfl) (by kernel_rfl) (calm_panic _) (by kernel_rfl)
                              case hy => exact .inr ⟨by kernel_rfl, rfl⟩
                              case hC => exact HC
                              case ha => (simp only [Act.put, List.setIfInBounds_toArray, List.set_cons_zero, List.set_cons_succ]; rfl)
                              apply WZ.take (i := 26) (some 145) rfl rfl (by kernel_rfl) (by kernel_rfl) (by kernel_rfl) (calm_panic _) (by kernel_rfl)
                              case hy => exact .inr ⟨by kernel_rfl, rfl⟩
                              case hC => exact HC
                              case ha => (simp only [Act.put, List.setIfInBounds_toArray, List.set_cons_zero, List.set_cons_succ]; rfl)
                              apply WZ.take (i := 27) (some 146) rfl rfl (by kernel_rfl) (by kernel_rfl) (by kernel_rfl) (calm_panic _) (by kernel_rfl)
                              case hy => exact .inr ⟨by kernel_rfl, rfl⟩
                              case hC => exact HC
                              case ha => (simp only [Act.put, List.setIfInBounds_toArray, List.set_cons_zero, List.set_cons_succ]; rfl)
                              apply WZ.take (i := 28) (some 147) rfl rfl (by kernel_rfl) (by kernel_rfl) (by kernel_rfl) (calm_panic _) (by kernel_rfl)
                              case hy => exact .inr ⟨by kernel_rfl, rfl⟩
                              case hC => exact HC
                              case ha => (simp only [Act.put, List.setIfInBounds_toArray, List.set_cons_zero, List.set_cons_succ]; rfl)
                              apply WZ.take (i := 29) (some 148) rfl rfl (by kernel_rfl) (by kernel_rfl) (by kernel_rfl) (calm_panic _) (by kernel_rfl)
                              case hy => (refine .inl ⟨by kernel_rfl, fun W hC => ?_⟩; (try dsimp only at hC); go_simp; rfl)
                              case hC => exact HC
                              case ha => (simp only [Act.put, List.setIfInBounds_toArray, List.set_cons_zero, List.set_cons_succ]; rfl)
                              refine WZ.done (by kernel_rfl) ?_ _
                              simp only [Calm, Exit.then]
                              clear HC
                              go_wp2
                              exact ⟨⟨k + 1, by first | rfl | go_num, by omega, HX, Lib.hid HC3.out.drew⟩, by simp [intOf]; omega⟩
                          · have f1 : decide ((k : Int) < (i : Int)) = false := decide_eq_false (by omega)
                            have HF := Lib.hid (HT.out.succ (fun h j h' hj => HU.out h j h' (by omega)) hlq)
                            go_wp2
                            exact ⟨⟨i + 1, by first | rfl | go_num, by omega, HF, HC3⟩, by simp [intOf]; omega⟩
                      · have e1 : decide ((i : Int) < (m : Int)) = false := decide_eq_false (by omega)
                        have HAP := Lib.hid (HT.out.all (by rw [HLQ.out]; omega))
                        have HF := Lib.hid (show rm = (0, Q) by rw [HRF.out]; exact refM_ok (by rw [HM0.out]; exact HDL.out) HAL.out HAP.out.symm)
                        have HMi := Lib.hid (ApR.below HR.out (HQ.out.trans (HBi.out.mono HQ.out.size)) HR.out.2.1)
                        obtain ⟨-, -, c32, c33⟩ := ApR.ed HMi.out
                        have HOi := Lib.hid (OwnR.below HO.out HBi.out)
                        go_wp2_with (show wpList _ _ _ ({ dst := none, op := Op.store _ (Operand.tmp 4) (Operand.tmp 155), type := _, pos := _, after := _, guard := _ } :: _) _ _; refine wpList_store_mid rfl 44 (.tmp 4) (.tmp 155) rfl (w.heap.size + 1 + 1) 0 (stC A8 m c8 nx' fl') rfl rfl HMi.out.there (by kernel_rfl) (stC_one _ _ _ _ _) ?_; refine HMi.out.putW A8 m c8 nx' fl' ?_; intro w6 HB6 d0 d1 d2)
                        have HO6 := Lib.hid (OwnR.apart_from HOi.out HB6.out.2 (Nat.lt_of_lt_of_le (Nat.lt_succ_self _) HR.out.2.1))
                        (try simp only [Exit.inBlock, Exit.then])
                        refine bodyPost_ret (app_resultsR rfl _ _ _ A8 m c8 nx' fl' _ rfl rfl d0 d1 d2) rfl ?_
                        rw [HF.out]
                        refine ⟨A8, c8, ?_, HO6.out.rd, HB6.out.1⟩
                        rw [show ((0 : Int), Q).2.length = m from HO6.out.len]
                        rfl
end Go.Proofs.Ytaeemeoffnhgfaa
