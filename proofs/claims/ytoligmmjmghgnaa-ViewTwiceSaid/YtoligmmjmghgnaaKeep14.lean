/-
  The walk of view.Keep.
-/
import Derived.Test.YtoligmmjmghgnaaAll14
import Derived.Test.YtoligmmjmghgnaaColumns14
import Derived.Test.YtoligmmjmghgnaaScan14
import Derived.Test.YtoligmmjmghgnaaCloneCell
import Derived.Test.YtoligmmjmghgnaaKeepPlain14
import Derived.Test.YtoligmmjmghgnaaKeepKit14
import Derived.Sort.CutIn
namespace Go.Proofs.Ytoligmmjmghgnaa
open Go.RowKit Go.Shelf
attribute [local go_sem ↓] Go.wp_at_zero Go.wp_at_succ
attribute [local go_sem] Oper.semAt_some

theorem all_lit (A : Option Addr) (c N : Nat) (z : Int) (hz : 0 ≤ z) (L : List Cs) (w : World) (hA : Rd w w.heap.size A (L.map Cs.val)) (hl : CsIn w w.heap.size L) (hN : L.length = N) (hlen : N ≤ 1000) (htot : (L.flatMap Cs.l).length ≤ 100000) :
    Calls Try.prog 17 #[.slice A N c, .int .u64 z] w fun e w' => ∃ (A' : Option Addr) (n' c' : Nat) (m : List Cl), e = .returned (.slice A' n' c') ∧ n' ≤ 100000 ∧ Once Cl.lt (allOf L z.toNat) m ∧ OwnC w' w.heap.size A' n' c' m ∧ Below w.heap.size w w' := by
  obtain ⟨n, rfl⟩ := Int.eq_ofNat_of_zero_le hz
  exact all_any A c N n L w hA hl hN hlen htot
set_option maxRecDepth 100000 in
set_option maxHeartbeats 1000000 in
theorem keep_any (Ax : Option Addr) (cx N fl : Nat) (last : Bool) (l : List Cl) (w : World) (hr : Rd w w.heap.size Ax (cls l)) (hN : l.length = N) (hle : N ≤ 100000) (hsq : ∀ x ∈ l, x.seq ≤ 18446744073709551615) :
    Calls Try.prog 14 #[.slice Ax N cx, .int .u64 (fl : Int), .bool last] w fun e w' => ∃ (A' : Option Addr) (n' c' : Nat) (m : List Cl), e = .returned (.slice A' n' c') ∧ Once Cl.lt l m ∧ OwnC w' w.heap.size A' n' c' (keepP m fl last) ∧ Below w.heap.size w w' := by
  obtain ⟨w0, hw0⟩ : ∃ w0, (((w.alloc (.cells #[.int .u64 (fl : Int)] 23)).alloc (.cells #[.bool last] 4)).alloc (.cells #[.slice none 0 0] 26)) = w0 := ⟨_, rfl⟩
  have HW0 := Lib.hid hw0
  refine (callsIn_wide (n := 9)).1 ?_
  refine callsIn_of_wp_marks Try.func14 rfl trivial ?_ rfl
  simp only [Try.ntmps14, List.size_toArray, List.length_cons, List.length_nil, Nat.reduceAdd, Nat.reduceSub, Array.replicate_succ, Array.replicate_zero, List.push_toArray, List.append_toArray, List.nil_append, List.cons_append]
  obtain ⟨W1, hW1⟩ : ∃ W1, w0.alloc (.cells #[.slice Ax N cx] 26) = W1 := ⟨_, rfl⟩
  have hb0 : Below w.heap.size w w0 := hw0 ▸ (below_al2 w _ _).trans ((below_al _ _).mono (below_al2 w _ _).size)
  have hs0 : w0.heap.size = w.heap.size + 3 := by rw [← hw0]; simp only [World.size_alloc]
  have hb1 : Below w0.heap.size w0 W1 := hW1 ▸ below_al w0 _
  have hs1 : W1.heap.size = w.heap.size + 4 := by rw [← hW1, World.size_alloc, hs0]
  have hx4 : Box w0 w.heap.size 23 (.int .u64 (fl : Int)) := by
    rw [← hw0]
    exact ((Box.new w 23 (.int .u64 (fl : Int))).alloc _).alloc _
  have hx5 : Box w0 (w.heap.size + 1) 4 (.bool last) := by
    rw [← hw0]
    have := (Box.new (w.alloc (.cells #[.int .u64 (fl : Int)] 23)) 4 (.bool last)).alloc (.cells #[.slice none 0 0] 26)
    rwa [World.size_alloc] at this
  have hx6 : Box w0 (w.heap.size + 2) 26 (.slice none 0 0) := by
    rw [← hw0]
    have := Box.new ((w.alloc (.cells #[.int .u64 (fl : Int)] 23)).alloc (.cells #[.bool last] 4)) 26 (.slice none 0 0)
    rwa [World.size_alloc, World.size_alloc] at this
  have hbw1 : Below w.heap.size w W1 := hb0.trans (hb1.mono hb0.size)
  have hall := all_lit (some ⟨w0.heap.size, 0, none⟩) 1 1 18446744073709551615 (by decide) [⟨Ax, cx, l⟩] W1
    (by
      have := Rd.ofBlock (heap_alloc_new w0 (.cells #[.slice Ax N cx] 26)) (show (#[Value.slice Ax N cx] : Array Value).toList = [Value.slice Ax N cx] from rfl)
      rw [hW1] at this
      rw [← hN] at this
      exact this)
    (by
      intro x hx
      rw [List.mem_singleton.1 hx]
      exact (hr.below hbw1).more hbw1.size)
    rfl (by omega) (by rw [show ([⟨Ax, cx, l⟩] : List Cs).flatMap Cs.l = l by simp]; omega)
  have hallof : allOf [⟨Ax, cx, l⟩] (18446744073709551615 : Int).toNat = l := by
    rw [show (18446744073709551615 : Int).toNat = 18446744073709551615 from rfl]
    unfold allOf
    rw [show ([⟨Ax, cx, l⟩] : List Cs).flatMap Cs.l = l by simp, List.filter_eq_self]
    intro x hx
    have := hsq x hx
    rw [decide_eq_false (by omega)]
    rfl
  rw [hallof, show w0.heap.size = w.heap.size + 1 + 1 + 1 by rw [hs0]] at hall
  have HALL := Lib.hid hall
  have HW1 := Lib.hid hW1
  have HB1 := Lib.hid (hb1.mono hb0.size)
  have HB0 := Lib.hid hb0
  have HS0 := Lib.hid hs0
  have HS1 := Lib.hid hs1
  have HX4 := Lib.hid hx4
  have HX5 := Lib.hid hx5
  have HX6 := Lib.hid hx6
  have HWB1 := Lib.hid hbw1
  have HB01 := Lib.hid hb1
  clear hall hw0 hW1 hb0 hs0 hs1 hx4 hx5 hx6 hbw1 hb1 hallof hr hsq hN
  gi_wp2_with (first
    | (refine ⟨trivial, ?_⟩; gi_at_call 17; rw [HW0.out, HW1.out]; refine (callsIn_wide.2 HALL.out).mono ?_; rintro e w2 ⟨A2, n2, c2, m, rfl, hn2, hm, ho2, hb2⟩)
    | (refine ⟨trivial, ?_⟩; gi_at_call 16; refine (callsIn_wide.2 (columns_any A2 n2 c2 _)).mono ?_; rintro e w3 ⟨rfl, rfl⟩))
  have HM := Lib.hid hm
  have HO2 := Lib.hid ho2
  have HB2 := Lib.hid hb2
  obtain ⟨w3, hw3⟩ : ∃ w3, w2.alloc (.cells #[.slice A2 n2 c2] 26) = w3 := ⟨_, rfl⟩
  have hbx3 : Box w3 w2.heap.size 26 (.slice A2 n2 c2) := hw3 ▸ Box.new w2 _ _
  have hb23 : Below w2.heap.size w2 w3 := hw3 ▸ below_al w2 _
  have hs3 : w3.heap.size = w2.heap.size + 1 := by rw [← hw3, World.size_alloc]
  have hr3 : Rd w3 w2.heap.size A2 (cls m) := ho2.rd.below hb23
  have hml : m.length = n2 := ho2.len
  have hcap : n2 ≤ c2 := ho2.le
  have h02 : w.heap.size + 4 ≤ w2.heap.size := by have := HS1.out; have := hb2.size; omega
  have hblk : ∀ k, blk A2 = some k → w.heap.size + 4 ≤ k ∧ k < w2.heap.size := fun k hk => by
    have := Own.lt ho2 k hk
    have := HS1.out
    omega
  have hb13 : Below W1.heap.size W1 w3 := hb2.trans (hb23.mono hb2.size)
  have hb03 : Below w0.heap.size w0 w3 := HB01.out.trans (hb13.mono HB01.out.size)
  have hbw3 : Below w.heap.size w w3 := HB0.out.trans (hb03.mono HB0.out.size)
  have hbx6 : Box w3 (w.heap.size + 2) 26 (.slice none 0 0) := HX6.out.below hb03 (by have := HS0.out; omega)
  have hbx4 : Box w3 w.heap.size 23 (.int .u64 (fl : Int)) := HX4.out.below hb03 (by have := HS0.out; omega)
  have hbx5 : Box w3 (w.heap.size + 1) 4 (.bool last) := HX5.out.below hb03 (by have := HS0.out; omega)
  have hst0 : OutSt w3 w2.heap.size (w.heap.size + 2) w3 [w.heap.size + 2] none 0 0 (keepF m fl last 0) := ⟨rfl, rfl, rfl, Nat.le_refl _, fun _ _ _ _ => rfl, hbx6, OwnC.nil, rfl⟩
  rw [hw3]
  have hflow := columns_flow (9 - 1) (by omega) w2.heap.size w2.heap.size c2 n2 A2 m (fun k => k ≠ w2.heap.size ∧ blk A2 ≠ some k) w3 hml hcap hn2 (by omega) hr3 hbx3 (fun h => h.1 rfl) (fun k hk => ⟨fun h => h.2 hk, by have := hblk k hk; omega⟩)
  have HBX4 := Lib.hid hbx4
  have HBX5 := Lib.hid hbx5
  have HR3 := Lib.hid hr3
  have HML := Lib.hid hml
  have HBLK := Lib.hid hblk
  have HBW3 := Lib.hid hbw3
  have HS3 := Lib.hid hs3
  clear hm ho2 hb2 hw3 hbx3 hb23 hr3 hml hblk hb03 hb13 hbw3 hbx6 hbx4 hbx5 hs3
  refine wpIn_flowB (F := Fence.wide) (n := 9) rfl rfl (gf := 28) (lb := #[.pointer (some ⟨w2.heap.size, 0, none⟩)]) rfl trivial (enters_of Try.func28 (by kernel_rfl) rfl) (fun _ => rfl) hflow
    (fun k hk => ⟨by have := HS3.out; omega, fun e => by have := HBLK.out k e; have := HS3.out; omega⟩) (fun k hk => by have := HS3.out; simp only [List.mem_singleton] at hk; omega)
    (fun pre own1 Wx => ∃ Ao no co, OutSt w3 w2.heap.size (w.heap.size + 2) Wx own1 Ao no co (keepF m fl last (tot pre))) Stays.of_out [w.heap.size + 2] ?how ?h0 ?hround ?hdone
  case how =>
    intro k hk
    simp only [List.mem_singleton] at hk
    have := HS3.out
    exact ⟨⟨by omega, fun e => by have := HBLK.out k e; omega⟩, by omega⟩
  case h0 => exact ⟨none, 0, 0, hst0⟩
  case hround =>
    rintro r pre x own1 Wx hr ⟨Ao, no, co, h⟩ hin hpre
    obtain ⟨hcut, hx, hlt⟩ := cut_pre HM.out.1 hpre
    subst hx
    clear hst0 hflow
    obtain ⟨k, hk⟩ : ∃ k, tot pre = k := ⟨_, rfl⟩
    have htot2 : ∀ y : Nat × Nat, tot (pre ++ [y]) = k + y.2 := fun y => by rw [tot_snoc, hk]
    rw [hk] at h hcut hlt
    simp only [hk, htot2]
    have hml := HML.out
    have hsn := keep_next HM.out.1 hcut hlt fl last
    have hg0 := colLen_pos (l := m.drop k) (by rw [List.length_drop]; omega)
    rw [List.length_drop, hml] at hg0
    obtain ⟨g, hg⟩ : ∃ g, colLen (m.drop k) = g := ⟨_, rfl⟩
    rw [hg] at hsn hg0 ⊢
    obtain ⟨G, hGG⟩ : ∃ G, (m.drop k).take g = G := ⟨_, rfl⟩
    have hGl : G.length = g := by rw [← hGG, List.length_take, List.length_drop, hml]; omega
    rw [hGG] at hsn
    obtain ⟨b, o, hA2, hbl, -⟩ := rd_elem (HR3.out) hlt
    subst hA2
    have hbk := HBLK.out b rfl
    have hkn : k < n2 := by omega
    have hta := tail_at b o c2 k (by omega)
    have hcv : colVal (some ⟨b, o, none⟩) c2 (k, g) = .slice (some ⟨b, o + k * 6, none⟩) g (c2 - k) := by unfold colVal; rw [hta]
    simp only [hcv]
    have HSN := Lib.hid hsn
    have HGL := Lib.hid hGl
    have HGG := Lib.hid hGG
    have HTA := Lib.hid hta
    have HLT := Lib.hid hlt
    have HG0 := Lib.hid hg0
    have HIN := Lib.hid hin
    clear hk htot2 hcut hsn hg hGG hGl hta hcv hml hpre h hg0 hin
    gi_wp2
    refine ⟨below_al _ _, ?_⟩
    rintro W2 hT ⟨A4, n4, c4, h4⟩
    have hsT : W2.heap.size = Wx.heap.size + 1 := hT.size.trans (by rw [World.size_alloc])
    have hrd := h4.rd HR3.out (by have := HS3.out; omega) (fun q hq => by have := HBLK.out q hq; omega)
    have hgr := grp_rd hrd HML.out hcap (k := k) (m := g) (by omega) (by have := HG0.out; omega)
    rw [HTA.out, HGG.out] at hgr
    have hgr := hgr.more (show w2.heap.size ≤ W2.heap.size by have := h4.size; have := HS3.out; omega)
    have hbg : Box W2 Wx.heap.size 26 (.slice (some ⟨b, o + k * 6, none⟩) g (c2 - k)) := (hT.block Wx.heap.size (by omega)).trans (Box.new Wx _ _)
    have hb4 : Box W2 w.heap.size 23 (.int .u64 (fl : Int)) := (h4.old w.heap.size (by have := HS3.out; omega) (by omega) (by omega)).trans HBX4.out
    have hb5 : Box W2 (w.heap.size + 1) 4 (.bool last) := (h4.old (w.heap.size + 1) (by have := HS3.out; omega) (by omega) (by omega)).trans HBX5.out
    have hbgc := hbg.cell
    have hg1 := HG0.out
    have hgl := HGL.out
    have hcl := cloneCl_any (some ⟨b, o + k * 6, none⟩) (c2 - k) G W2 hgr (by omega)
    rw [hgl] at hcl
    have HDEL := Lib.hid (fun (A8 : Option Addr) (c8 : Nat) (W8 : World) (h8 : OwnC W8 W2.heap.size A8 g c8 G) (hb8 : Below W2.heap.size W2 W8) =>
      deleteOwnC 22 #[.pointer (some ⟨Wx.heap.size, 0, none⟩), .pointer (some ⟨w.heap.size, 0, none⟩)] (covG G fl) W2.heap.size g c8 A8 G W8 (enters_of Try.func22 (by kernel_rfl) rfl) h8 (by omega)
        fun x W hW => by
          have hbW : Below W2.heap.size W2 W := Own.grow h8 hb8 hb8.size (Nat.le_refl _) hW
          exact keepOut_any Wx.heap.size w.heap.size fl g (c2 - k) (some ⟨b, o + k * 6, none⟩) G x W (hbg.below hbW hbg.lt) (hb4.below hbW hb4.lt) ((hgr.below hbW).more hbW.size) hgl (by unfold maxLen; omega))
    have HCL := Lib.hid hcl
    have hlow : ∀ q ∈ own1, q < Wx.heap.size := HIN.out
    have hno : ∀ q, q < w3.heap.size → q ≠ w.heap.size + 2 → q ∉ own1 := fun q hq hq2 hin => by
      rw [h4.ow] at hin
      rcases List.mem_cons.1 hin with e | hin
      · exact hq2 e
      · cases hA : blk A4 with
        | none => rw [hA] at hin; cases hin
        | some j =>
          rw [hA] at hin
          simp only [Option.toList_some, List.mem_singleton] at hin
          have := (Own.lt h4.row j hA).1
          omega
    have H4 := Lib.hid h4
    have HNO := Lib.hid hno
    have HLOW := Lib.hid hlow
    have HB4 := Lib.hid hb4
    have HB5 := Lib.hid hb5
    have HST := Lib.hid hsT
    clear h4 hT hrd hgr hbg hb4 hb5 hcl hno hlow hsT hgl
    refine wpIn_block ?_
    gi_upto_region 3 with fail
    refine region_round ?hd ?_
    case hd => rfl
    go_wp2_with (first
      | (go_at_call 21; refine HCL.out.mono ?_; rintro e w5 ⟨A5, c5, rfl, ho5, hb5⟩)
      | (go_at_call 20; refine (HDEL.out A5 c5 w5 ho5 hb5).mono ?_; rintro e w8 ⟨n8, rfl, hn8, ho8, hg8⟩))
    have hb8 : Below W2.heap.size W2 w8 := Own.grow ho5 hb5 hb5.size (Nat.le_refl _) hg8
    clear hg8
    obtain ⟨D, hD⟩ : ∃ D, keptG G fl = D := ⟨_, rfl⟩
    have ho8 : OwnC w8 W2.heap.size A5 n8 c5 (keptG G fl) := ho8
    rw [hD] at ho8
    have hdl : D.length = n8 := OwnC.len ho8
    have H8 := Lib.hid (H4.out.still ((Still.of_below hb8).toB [w2.heap.size]))
    have HO8 := Lib.hid ho8
    have HB8 := Lib.hid hb8
    have HD := Lib.hid hD
    have HDL := Lib.hid hdl
    have HX4' := Lib.hid (HB4.out.below hb8 HB4.out.lt)
    have HX5' := Lib.hid (HB5.out.below hb8 HB5.out.lt)
    clear ho8 hb8 hD hdl ho5 hb5 hbgc HCL HDEL
    gi_wp2
    gi_loopw [23] (fun v23 wr => ∃ (i : Nat) (own2 : List Nat) (A6 : Option Addr) (n6 c6 : Nat), v23 = .int .i64 (i : Int) ∧ i ≤ n8 ∧ Hid (OutSt w3 w2.heap.size (w.heap.size + 2) wr own2 A6 n6 c6 (keepF m fl last k ++ (D.take i).filter (keepQ D fl last))) ∧ Hid (Mv own1 own2 w8 wr)) (fun v23 _ => n8 - (intOf v23).toNat)
    case atStart =>
      exact ⟨0, own1, A4, n4, c4, rfl, Nat.zero_le _, Lib.hid (by rw [List.take_zero, List.filter_nil, List.append_nil]; exact H8.out), Lib.hid (Mv.refl H8.out.lies)⟩
    case round =>
      obtain ⟨i, own2, A6, n6, c6, rfl, hi, H6, HM6⟩ := hrel
      rename World => wr
      by_cases hlt : i < n8
      · have e1 : decide ((i : Int) < (n8 : Int)) = true := decide_eq_true (by omega)
        have k1 : (0 : Int) ≤ (i : Int) := by omega
        have k2 : (i : Int) < (n8 : Int) := by omega
        have hid : i < D.length := by rw [HDL.out]; exact hlt
        have hrr : Rd wr w8.heap.size A5 (cls D) := Rd.mv HO8.out.rd HM6.out fun q hq hin => by
          have := (Own.lt HO8.out q hq).1
          have := HLOW.out q hin
          have := HST.out
          omega
        obtain ⟨b5, o5, hA5, hb5, hrx⟩ := rd_elem hrr hid
        subst hA5
        have hfn := filter_next (q := keepQ D fl last) hid
        obtain ⟨x, hx⟩ : ∃ x, D[i] = x := ⟨_, rfl⟩
        rw [hx] at hrx hfn
        have HRX := Lib.hid hrx
        have HRR := Lib.hid hrr
        have HFN := Lib.hid hfn
        clear hrx hrr hfn hx
        gi_upto_region 6 with fail
        refine region_round ?hd ?_
        case hd => rfl
        go_wp2_with (first
          | (show wpList _ _ _ ({ dst := some 26, op := Op.load _ _, type := _, pos := _, after := _, guard := _ } :: _) _ _; refine wpList_load_mid rfl 29 (.tmp 25) rfl b5 (o5 + i * 6) rfl x.vals _ HRX.out Try.underlying29 rfl (by kernel_rfl) ?_)
          | (show wpList _ _ _ ({ dst := none, op := Op.store _ (Operand.tmp 10) _, type := _, pos := _, after := _, guard := _ } :: _) _ _; refine wpList_store_mid rfl 29 (.tmp 10) (.tmp 26) rfl wr.heap.size 0 x.vals.toArray rfl rfl (QBox.there_made _ _ _ _ _ _ _ _) (by kernel_rfl) (all_oneCell_toArray (Cl.one x)) ?_; refine QBox.madeW 29 wr _ _ _ _ _ _ x ?_; intro w6 HG6 HB6))
        obtain ⟨q0, q1, q2, q3, q4, q5⟩ := HG6.out.cells
        have hm4 := HX4'.out.mv HM6.out (HNO.out w.heap.size (by have := HS3.out; omega) (by omega))
        have hm5 := HX5'.out.mv HM6.out (HNO.out (w.heap.size + 1) (by have := HS3.out; omega) (by omega))
        have hb46 := (hm4.below HB6.out hm4.lt).cell
        have hrr6 := ((HRR.out.more HM6.out.size).below HB6.out).more HB6.out.size
        have hcn := containsCell_any 26 #[.pointer (some ⟨wr.heap.size, 0, none⟩)] (hides x) w6 (enters_of Try.func26 (by kernel_rfl) rfl) (fun y W hW => keepHid_any wr.heap.size y x W (HG6.out.below hW HG6.out.lt)) (some ⟨b5, o5, none⟩) c5 D hrr6 (by unfold maxLen; have := HDL.out; omega)
        rw [HDL.out] at hcn
        obtain ⟨av, hav⟩ : ∃ av, D.any (hides x) = av := ⟨_, rfl⟩
        obtain ⟨lv, hlv⟩ : ∃ lv, last = lv := ⟨_, rfl⟩
        have hq : keepQ D fl last x = (!lv || !(x.del && decide (x.seq ≤ fl) && !av)) := by unfold keepQ; rw [hav, hlv]
        rw [hav] at hcn
        have hb56 := hm5.below HB6.out hm5.lt
        rw [hlv] at hb56
        have HB56 := Lib.hid hb56
        have HQ := Lib.hid hq
        have HCN := Lib.hid hcn
        have HLEN := Lib.hid (show n6 ≤ 300000 from by
          have h1 := OwnC.len H6.out.row
          rw [List.length_append] at h1
          have h2 : (keepF m fl last k).length ≤ k := by
            unfold keepF
            refine Nat.le_trans (List.length_filter_le _ _) ?_
            rw [List.length_take]
            omega
          have h3 : ((D.take i).filter (keepQ D fl last)).length ≤ i := by
            refine Nat.le_trans (List.length_filter_le _ _) ?_
            rw [List.length_take]
            omega
          omega)
        clear hm4 hm5 hrr6 hcn hav hq hb56 hlv
        cases hd : x.del with
        | false =>
          rw [hd] at q4
          have HK := Lib.hid (show keepQ D fl last x = true by rw [HQ.out, hd]; cases lv <;> rfl)
          gi_upto_region 7 with fail
          refine region_round ?hd ?_
          case hd => rfl
          go_wp2_with (go_at_call 23; refine HCN.out.mono ?_; rintro e w7 ⟨rfl, hb7⟩)
          have HB7 := Lib.hid (Below.refl w6.heap.size w6)
          have hb67 := HB7.out
          have hbr7 := HB6.out.trans (hb67.mono HB6.out.size)
          have hl7 := (HB56.out.below hb67 HB56.out.lt).cell
          have hbx7 := H6.out.box.below hbr7 H6.out.box.lt
          have hc8 := hbx7.cell
          have hf8 := hbx7.free
          have h8l := hbx7.lt
          have HG7 := Lib.hid (HG6.out.below hb67 HG6.out.lt)
          have HBR7 := Lib.hid hbr7
          clear hb67 hbr7 hbx7 q0 q1 q2 q3 q4 q5 hb46
          clear hd
          cases lv with
          | true =>
            have HFX := Lib.hid (show (D.take (i + 1)).filter (keepQ D fl last) = (D.take i).filter (keepQ D fl last) ++ [x] by rw [HFN.out, HK.out]; rfl)
            gi_upto_region 9 with fail
            refine region_round ?hd ?_
            case hd => rfl
            have HCB := Lib.hid (fun (ob : Obj) => ((below_al w6 ob).cell (p := ⟨w.heap.size + 2, 0, none⟩) h8l).trans hc8)
            have HFB := Lib.hid (fun (ob : Obj) => ((below_al w6 ob).frozen (p := ⟨w.heap.size + 2, 0, none⟩) h8l).trans hf8)
            have hne6 : some (w.heap.size + 2) ≠ blk A6 := fun e => by have := (Own.lt H6.out.row _ e.symm).1; have := HS3.out; omega
            go_wp2_with (first
              | (show wpList _ _ _ ({ dst := some 48, op := Op.load _ _, type := _, pos := _, after := _, guard := _ } :: _) _ _; refine wpList_load_mid rfl 29 (.tmp 10) rfl wr.heap.size 0 rfl [.string x.row, .string x.col, .int .u64 x.ts, .int .u64 x.seq, .bool x.del, .string x.val] _ HG7.out.range Try.underlying29 rfl (by kernel_rfl) ?_)
              | (at_builtin; show wpList _ _ _ ({ dst := some 50, op := _, type := _, pos := _, after := _, guard := _ } :: _) _ _; go_loud (refine cells_app3 rfl _ _ rfl w3.heap.size A6 n6 c6 (n6 + 1) _ [x] rfl (OwnC.below (OwnC.below H6.out.row HBR7.out) (below_al _ _)) (some ⟨w6.heap.size, 0, none⟩) 1 1 rfl (rd_made x rfl rfl) rfl rfl (by have := HLEN.out; omega) (by rw [World.size_alloc]; have := H6.out.size; have := HBR7.out.size; omega) ?_); intro A8 c8 wA HO8 HGA HRA; have hcA := (HGA.out.cell_far ⟨w.heap.size + 2, 0, none⟩ (by rw [World.size_alloc]; exact Nat.lt_succ_of_lt h8l) hne6).trans (HCB.out _); have hfA := (HGA.out.frozen_far ⟨w.heap.size + 2, 0, none⟩ (by rw [World.size_alloc]; exact Nat.lt_succ_of_lt h8l) hne6).trans (HFB.out _)))
            have HP := Lib.hid (H6.out.push (by have := HS3.out; omega) (HBR7.out.trans ((below_al _ _).mono HBR7.out.size)) HO8.out HGA.out HRA.out)
            gi_wp2
            exact ⟨⟨i + 1, _, A8, n6 + 1, c8, by first | rfl | go_num, by omega, Lib.hid (by rw [HFX.out, ← List.append_assoc]; exact HP.out.1), Lib.hid (HM6.out.trans HP.out.2)⟩, by simp [intOf]; omega⟩
          | false =>
            have HFX := Lib.hid (show (D.take (i + 1)).filter (keepQ D fl last) = (D.take i).filter (keepQ D fl last) ++ [x] by rw [HFN.out, HK.out]; rfl)
            gi_upto_region 9 with fail
            refine region_round ?hd ?_
            case hd => rfl
            have HCB := Lib.hid (fun (ob : Obj) => ((below_al w6 ob).cell (p := ⟨w.heap.size + 2, 0, none⟩) h8l).trans hc8)
            have HFB := Lib.hid (fun (ob : Obj) => ((below_al w6 ob).frozen (p := ⟨w.heap.size + 2, 0, none⟩) h8l).trans hf8)
            have hne6 : some (w.heap.size + 2) ≠ blk A6 := fun e => by have := (Own.lt H6.out.row _ e.symm).1; have := HS3.out; omega
            go_wp2_with (first
              | (show wpList _ _ _ ({ dst := some 48, op := Op.load _ _, type := _, pos := _, after := _, guard := _ } :: _) _ _; refine wpList_load_mid rfl 29 (.tmp 10) rfl wr.heap.size 0 rfl [.string x.row, .string x.col, .int .u64 x.ts, .int .u64 x.seq, .bool x.del, .string x.val] _ HG7.out.range Try.underlying29 rfl (by kernel_rfl) ?_)
              | (at_builtin; show wpList _ _ _ ({ dst := some 50, op := _, type := _, pos := _, after := _, guard := _ } :: _) _ _; go_loud (refine cells_app3 rfl _ _ rfl w3.heap.size A6 n6 c6 (n6 + 1) _ [x] rfl (OwnC.below (OwnC.below H6.out.row HBR7.out) (below_al _ _)) (some ⟨w6.heap.size, 0, none⟩) 1 1 rfl (rd_made x rfl rfl) rfl rfl (by have := HLEN.out; omega) (by rw [World.size_alloc]; have := H6.out.size; have := HBR7.out.size; omega) ?_); intro A8 c8 wA HO8 HGA HRA; have hcA := (HGA.out.cell_far ⟨w.heap.size + 2, 0, none⟩ (by rw [World.size_alloc]; exact Nat.lt_succ_of_lt h8l) hne6).trans (HCB.out _); have hfA := (HGA.out.frozen_far ⟨w.heap.size + 2, 0, none⟩ (by rw [World.size_alloc]; exact Nat.lt_succ_of_lt h8l) hne6).trans (HFB.out _)))
            have HP := Lib.hid (H6.out.push (by have := HS3.out; omega) (HBR7.out.trans ((below_al _ _).mono HBR7.out.size)) HO8.out HGA.out HRA.out)
            gi_wp2
            exact ⟨⟨i + 1, _, A8, n6 + 1, c8, by first | rfl | go_num, by omega, Lib.hid (by rw [HFX.out, ← List.append_assoc]; exact HP.out.1), Lib.hid (HM6.out.trans HP.out.2)⟩, by simp [intOf]; omega⟩
        | true =>
          rw [hd] at q4
          by_cases hs : x.seq ≤ fl
          · have s1 : decide (x.seq ≤ fl) = true := decide_eq_true hs
            cases av with
            | true =>
              have HK := Lib.hid (show keepQ D fl last x = true by rw [HQ.out, hd, s1]; cases lv <;> rfl)
              gi_upto_region 7 with fail
              refine region_round ?hd ?_
              case hd => rfl
              go_wp2_with (go_at_call 23; refine HCN.out.mono ?_; rintro e w7 ⟨rfl, hb7⟩)
              have HB7 := Lib.hid hb7
              clear hb7
              have hb67 := HB7.out
              have hbr7 := HB6.out.trans (hb67.mono HB6.out.size)
              have hl7 := (HB56.out.below hb67 HB56.out.lt).cell
              have hbx7 := H6.out.box.below hbr7 H6.out.box.lt
              have hc8 := hbx7.cell
              have hf8 := hbx7.free
              have h8l := hbx7.lt
              have HG7 := Lib.hid (HG6.out.below hb67 HG6.out.lt)
              have HBR7 := Lib.hid hbr7
              clear hb67 hbr7 hbx7 q0 q1 q2 q3 q4 q5 hb46
              clear hd
              cases lv with
              | true =>
                have HFX := Lib.hid (show (D.take (i + 1)).filter (keepQ D fl last) = (D.take i).filter (keepQ D fl last) ++ [x] by rw [HFN.out, HK.out]; rfl)
                gi_upto_region 9 with fail
                refine region_round ?hd ?_
                case hd => rfl
                have HCB := Lib.hid (fun (ob : Obj) => ((below_al w7 ob).cell (p := ⟨w.heap.size + 2, 0, none⟩) h8l).trans hc8)
                have HFB := Lib.hid (fun (ob : Obj) => ((below_al w7 ob).frozen (p := ⟨w.heap.size + 2, 0, none⟩) h8l).trans hf8)
                have hne6 : some (w.heap.size + 2) ≠ blk A6 := fun e => by have := (Own.lt H6.out.row _ e.symm).1; have := HS3.out; omega
                go_wp2_with (first
                  | (show wpList _ _ _ ({ dst := some 48, op := Op.load _ _, type := _, pos := _, after := _, guard := _ } :: _) _ _; refine wpList_load_mid rfl 29 (.tmp 10) rfl wr.heap.size 0 rfl [.string x.row, .string x.col, .int .u64 x.ts, .int .u64 x.seq, .bool x.del, .string x.val] _ HG7.out.range Try.underlying29 rfl (by kernel_rfl) ?_)
                  | (at_builtin; show wpList _ _ _ ({ dst := some 50, op := _, type := _, pos := _, after := _, guard := _ } :: _) _ _; go_loud (refine cells_app3 rfl _ _ rfl w3.heap.size A6 n6 c6 (n6 + 1) _ [x] rfl (OwnC.below (OwnC.below H6.out.row HBR7.out) (below_al _ _)) (some ⟨w7.heap.size, 0, none⟩) 1 1 rfl (rd_made x rfl rfl) rfl rfl (by have := HLEN.out; omega) (by rw [World.size_alloc]; have := H6.out.size; have := HBR7.out.size; omega) ?_); intro A8 c8 wA HO8 HGA HRA; have hcA := (HGA.out.cell_far ⟨w.heap.size + 2, 0, none⟩ (by rw [World.size_alloc]; exact Nat.lt_succ_of_lt h8l) hne6).trans (HCB.out _); have hfA := (HGA.out.frozen_far ⟨w.heap.size + 2, 0, none⟩ (by rw [World.size_alloc]; exact Nat.lt_succ_of_lt h8l) hne6).trans (HFB.out _)))
                have HP := Lib.hid (H6.out.push (by have := HS3.out; omega) (HBR7.out.trans ((below_al _ _).mono HBR7.out.size)) HO8.out HGA.out HRA.out)
                gi_wp2
                exact ⟨⟨i + 1, _, A8, n6 + 1, c8, by first | rfl | go_num, by omega, Lib.hid (by rw [HFX.out, ← List.append_assoc]; exact HP.out.1), Lib.hid (HM6.out.trans HP.out.2)⟩, by simp [intOf]; omega⟩
              | false =>
                have HFX := Lib.hid (show (D.take (i + 1)).filter (keepQ D fl last) = (D.take i).filter (keepQ D fl last) ++ [x] by rw [HFN.out, HK.out]; rfl)
                gi_upto_region 9 with fail
                refine region_round ?hd ?_
                case hd => rfl
                have HCB := Lib.hid (fun (ob : Obj) => ((below_al w7 ob).cell (p := ⟨w.heap.size + 2, 0, none⟩) h8l).trans hc8)
                have HFB := Lib.hid (fun (ob : Obj) => ((below_al w7 ob).frozen (p := ⟨w.heap.size + 2, 0, none⟩) h8l).trans hf8)
                have hne6 : some (w.heap.size + 2) ≠ blk A6 := fun e => by have := (Own.lt H6.out.row _ e.symm).1; have := HS3.out; omega
                go_wp2_with (first
                  | (show wpList _ _ _ ({ dst := some 48, op := Op.load _ _, type := _, pos := _, after := _, guard := _ } :: _) _ _; refine wpList_load_mid rfl 29 (.tmp 10) rfl wr.heap.size 0 rfl [.string x.row, .string x.col, .int .u64 x.ts, .int .u64 x.seq, .bool x.del, .string x.val] _ HG7.out.range Try.underlying29 rfl (by kernel_rfl) ?_)
                  | (at_builtin; show wpList _ _ _ ({ dst := some 50, op := _, type := _, pos := _, after := _, guard := _ } :: _) _ _; go_loud (refine cells_app3 rfl _ _ rfl w3.heap.size A6 n6 c6 (n6 + 1) _ [x] rfl (OwnC.below (OwnC.below H6.out.row HBR7.out) (below_al _ _)) (some ⟨w7.heap.size, 0, none⟩) 1 1 rfl (rd_made x rfl rfl) rfl rfl (by have := HLEN.out; omega) (by rw [World.size_alloc]; have := H6.out.size; have := HBR7.out.size; omega) ?_); intro A8 c8 wA HO8 HGA HRA; have hcA := (HGA.out.cell_far ⟨w.heap.size + 2, 0, none⟩ (by rw [World.size_alloc]; exact Nat.lt_succ_of_lt h8l) hne6).trans (HCB.out _); have hfA := (HGA.out.frozen_far ⟨w.heap.size + 2, 0, none⟩ (by rw [World.size_alloc]; exact Nat.lt_succ_of_lt h8l) hne6).trans (HFB.out _)))
                have HP := Lib.hid (H6.out.push (by have := HS3.out; omega) (HBR7.out.trans ((below_al _ _).mono HBR7.out.size)) HO8.out HGA.out HRA.out)
                gi_wp2
                exact ⟨⟨i + 1, _, A8, n6 + 1, c8, by first | rfl | go_num, by omega, Lib.hid (by rw [HFX.out, ← List.append_assoc]; exact HP.out.1), Lib.hid (HM6.out.trans HP.out.2)⟩, by simp [intOf]; omega⟩
            | false =>
              have HK := Lib.hid (show keepQ D fl last x = !lv by rw [HQ.out, hd, s1]; cases lv <;> rfl)
              gi_upto_region 7 with fail
              refine region_round ?hd ?_
              case hd => rfl
              go_wp2_with (go_at_call 23; refine HCN.out.mono ?_; rintro e w7 ⟨rfl, hb7⟩)
              have HB7 := Lib.hid hb7
              clear hb7
              have hb67 := HB7.out
              have hbr7 := HB6.out.trans (hb67.mono HB6.out.size)
              have hl7 := (HB56.out.below hb67 HB56.out.lt).cell
              have hbx7 := H6.out.box.below hbr7 H6.out.box.lt
              have hc8 := hbx7.cell
              have hf8 := hbx7.free
              have h8l := hbx7.lt
              have HG7 := Lib.hid (HG6.out.below hb67 HG6.out.lt)
              have HBR7 := Lib.hid hbr7
              clear hb67 hbr7 hbx7 q0 q1 q2 q3 q4 q5 hb46
              clear hd
              cases lv with
              | true =>
                have HK := Lib.hid (show keepQ D fl last x = false from HK.out)
                have HFX := Lib.hid (show (D.take (i + 1)).filter (keepQ D fl last) = (D.take i).filter (keepQ D fl last) by rw [HFN.out, HK.out]; exact List.append_nil _)
                gi_wp2
                exact ⟨⟨i + 1, own2, A6, n6, c6, by first | rfl | go_num, by omega, Lib.hid (by rw [HFX.out]; exact H6.out.still ((Still.of_below HBR7.out).toB _)), Lib.hid (HM6.out.trans (Mv.of_below HBR7.out H6.out.lies))⟩, by simp [intOf]; omega⟩
              | false =>
                have HK := Lib.hid (show keepQ D fl last x = true from HK.out)
                have HFX := Lib.hid (show (D.take (i + 1)).filter (keepQ D fl last) = (D.take i).filter (keepQ D fl last) ++ [x] by rw [HFN.out, HK.out]; rfl)
                gi_upto_region 9 with fail
                refine region_round ?hd ?_
                case hd => rfl
                have HCB := Lib.hid (fun (ob : Obj) => ((below_al w7 ob).cell (p := ⟨w.heap.size + 2, 0, none⟩) h8l).trans hc8)
                have HFB := Lib.hid (fun (ob : Obj) => ((below_al w7 ob).frozen (p := ⟨w.heap.size + 2, 0, none⟩) h8l).trans hf8)
                have hne6 : some (w.heap.size + 2) ≠ blk A6 := fun e => by have := (Own.lt H6.out.row _ e.symm).1; have := HS3.out; omega
                go_wp2_with (first
                  | (show wpList _ _ _ ({ dst := some 48, op := Op.load _ _, type := _, pos := _, after := _, guard := _ } :: _) _ _; refine wpList_load_mid rfl 29 (.tmp 10) rfl wr.heap.size 0 rfl [.string x.row, .string x.col, .int .u64 x.ts, .int .u64 x.seq, .bool x.del, .string x.val] _ HG7.out.range Try.underlying29 rfl (by kernel_rfl) ?_)
                  | (at_builtin; show wpList _ _ _ ({ dst := some 50, op := _, type := _, pos := _, after := _, guard := _ } :: _) _ _; go_loud (refine cells_app3 rfl _ _ rfl w3.heap.size A6 n6 c6 (n6 + 1) _ [x] rfl (OwnC.below (OwnC.below H6.out.row HBR7.out) (below_al _ _)) (some ⟨w7.heap.size, 0, none⟩) 1 1 rfl (rd_made x rfl rfl) rfl rfl (by have := HLEN.out; omega) (by rw [World.size_alloc]; have := H6.out.size; have := HBR7.out.size; omega) ?_); intro A8 c8 wA HO8 HGA HRA; have hcA := (HGA.out.cell_far ⟨w.heap.size + 2, 0, none⟩ (by rw [World.size_alloc]; exact Nat.lt_succ_of_lt h8l) hne6).trans (HCB.out _); have hfA := (HGA.out.frozen_far ⟨w.heap.size + 2, 0, none⟩ (by rw [World.size_alloc]; exact Nat.lt_succ_of_lt h8l) hne6).trans (HFB.out _)))
                have HP := Lib.hid (H6.out.push (by have := HS3.out; omega) (HBR7.out.trans ((below_al _ _).mono HBR7.out.size)) HO8.out HGA.out HRA.out)
                gi_wp2
                exact ⟨⟨i + 1, _, A8, n6 + 1, c8, by first | rfl | go_num, by omega, Lib.hid (by rw [HFX.out, ← List.append_assoc]; exact HP.out.1), Lib.hid (HM6.out.trans HP.out.2)⟩, by simp [intOf]; omega⟩
          · have s1 : decide (x.seq ≤ fl) = false := decide_eq_false hs
            have HK := Lib.hid (show keepQ D fl last x = true by rw [HQ.out, hd, s1]; cases lv <;> rfl)
            gi_upto_region 7 with fail
            refine region_round ?hd ?_
            case hd => rfl
            go_wp2_with (go_at_call 23; refine HCN.out.mono ?_; rintro e w7 ⟨rfl, hb7⟩)
            have HB7 := Lib.hid (Below.refl w6.heap.size w6)
            have hb67 := HB7.out
            have hbr7 := HB6.out.trans (hb67.mono HB6.out.size)
            have hl7 := (HB56.out.below hb67 HB56.out.lt).cell
            have hbx7 := H6.out.box.below hbr7 H6.out.box.lt
            have hc8 := hbx7.cell
            have hf8 := hbx7.free
            have h8l := hbx7.lt
            have HG7 := Lib.hid (HG6.out.below hb67 HG6.out.lt)
            have HBR7 := Lib.hid hbr7
            clear hb67 hbr7 hbx7 q0 q1 q2 q3 q4 q5 hb46
            clear hd
            cases lv with
            | true =>
              have HFX := Lib.hid (show (D.take (i + 1)).filter (keepQ D fl last) = (D.take i).filter (keepQ D fl last) ++ [x] by rw [HFN.out, HK.out]; rfl)
              gi_upto_region 9 with fail
              refine region_round ?hd ?_
              case hd => rfl
              have HCB := Lib.hid (fun (ob : Obj) => ((below_al w6 ob).cell (p := ⟨w.heap.size + 2, 0, none⟩) h8l).trans hc8)
              have HFB := Lib.hid (fun (ob : Obj) => ((below_al w6 ob).frozen (p := ⟨w.heap.size + 2, 0, none⟩) h8l).trans hf8)
              have hne6 : some (w.heap.size + 2) ≠ blk A6 := fun e => by have := (Own.lt H6.out.row _ e.symm).1; have := HS3.out; omega
              go_wp2_with (first
                | (show wpList _ _ _ ({ dst := some 48, op := Op.load _ _, type := _, pos := _, after := _, guard := _ } :: _) _ _; refine wpList_load_mid rfl 29 (.tmp 10) rfl wr.heap.size 0 rfl [.string x.row, .string x.col, .int .u64 x.ts, .int .u64 x.seq, .bool x.del, .string x.val] _ HG7.out.range Try.underlying29 rfl (by kernel_rfl) ?_)
                | (at_builtin; show wpList _ _ _ ({ dst := some 50, op := _, type := _, pos := _, after := _, guard := _ } :: _) _ _; go_loud (refine cells_app3 rfl _ _ rfl w3.heap.size A6 n6 c6 (n6 + 1) _ [x] rfl (OwnC.below (OwnC.below H6.out.row HBR7.out) (below_al _ _)) (some ⟨w6.heap.size, 0, none⟩) 1 1 rfl (rd_made x rfl rfl) rfl rfl (by have := HLEN.out; omega) (by rw [World.size_alloc]; have := H6.out.size; have := HBR7.out.size; omega) ?_); intro A8 c8 wA HO8 HGA HRA; have hcA := (HGA.out.cell_far ⟨w.heap.size + 2, 0, none⟩ (by rw [World.size_alloc]; exact Nat.lt_succ_of_lt h8l) hne6).trans (HCB.out _); have hfA := (HGA.out.frozen_far ⟨w.heap.size + 2, 0, none⟩ (by rw [World.size_alloc]; exact Nat.lt_succ_of_lt h8l) hne6).trans (HFB.out _)))
              have HP := Lib.hid (H6.out.push (by have := HS3.out; omega) (HBR7.out.trans ((below_al _ _).mono HBR7.out.size)) HO8.out HGA.out HRA.out)
              gi_wp2
              exact ⟨⟨i + 1, _, A8, n6 + 1, c8, by first | rfl | go_num, by omega, Lib.hid (by rw [HFX.out, ← List.append_assoc]; exact HP.out.1), Lib.hid (HM6.out.trans HP.out.2)⟩, by simp [intOf]; omega⟩
            | false =>
              have HFX := Lib.hid (show (D.take (i + 1)).filter (keepQ D fl last) = (D.take i).filter (keepQ D fl last) ++ [x] by rw [HFN.out, HK.out]; rfl)
              gi_upto_region 9 with fail
              refine region_round ?hd ?_
              case hd => rfl
              have HCB := Lib.hid (fun (ob : Obj) => ((below_al w6 ob).cell (p := ⟨w.heap.size + 2, 0, none⟩) h8l).trans hc8)
              have HFB := Lib.hid (fun (ob : Obj) => ((below_al w6 ob).frozen (p := ⟨w.heap.size + 2, 0, none⟩) h8l).trans hf8)
              have hne6 : some (w.heap.size + 2) ≠ blk A6 := fun e => by have := (Own.lt H6.out.row _ e.symm).1; have := HS3.out; omega
              go_wp2_with (first
                | (show wpList _ _ _ ({ dst := some 48, op := Op.load _ _, type := _, pos := _, after := _, guard := _ } :: _) _ _; refine wpList_load_mid rfl 29 (.tmp 10) rfl wr.heap.size 0 rfl [.string x.row, .string x.col, .int .u64 x.ts, .int .u64 x.seq, .bool x.del, .string x.val] _ HG7.out.range Try.underlying29 rfl (by kernel_rfl) ?_)
                | (at_builtin; show wpList _ _ _ ({ dst := some 50, op := _, type := _, pos := _, after := _, guard := _ } :: _) _ _; go_loud (refine cells_app3 rfl _ _ rfl w3.heap.size A6 n6 c6 (n6 + 1) _ [x] rfl (OwnC.below (OwnC.below H6.out.row HBR7.out) (below_al _ _)) (some ⟨w6.heap.size, 0, none⟩) 1 1 rfl (rd_made x rfl rfl) rfl rfl (by have := HLEN.out; omega) (by rw [World.size_alloc]; have := H6.out.size; have := HBR7.out.size; omega) ?_); intro A8 c8 wA HO8 HGA HRA; have hcA := (HGA.out.cell_far ⟨w.heap.size + 2, 0, none⟩ (by rw [World.size_alloc]; exact Nat.lt_succ_of_lt h8l) hne6).trans (HCB.out _); have hfA := (HGA.out.frozen_far ⟨w.heap.size + 2, 0, none⟩ (by rw [World.size_alloc]; exact Nat.lt_succ_of_lt h8l) hne6).trans (HFB.out _)))
              have HP := Lib.hid (H6.out.push (by have := HS3.out; omega) (HBR7.out.trans ((below_al _ _).mono HBR7.out.size)) HO8.out HGA.out HRA.out)
              gi_wp2
              exact ⟨⟨i + 1, _, A8, n6 + 1, c8, by first | rfl | go_num, by omega, Lib.hid (by rw [HFX.out, ← List.append_assoc]; exact HP.out.1), Lib.hid (HM6.out.trans HP.out.2)⟩, by simp [intOf]; omega⟩
      · have e1 : decide ((i : Int) < (n8 : Int)) = false := decide_eq_false (by omega)
        have h6 := H6.out
        rw [List.take_of_length_le (by rw [HDL.out]; omega)] at h6
        have HF := Lib.hid (show OutSt w3 w2.heap.size (w.heap.size + 2) wr own2 A6 n6 c6 (keepF m fl last (k + g)) by
          rw [HSN.out]
          unfold keepG
          rw [HD.out]
          exact h6)
        clear h6
        gi_wp2
        exact ⟨trivial, _, ⟨A6, n6, c6, HF.out⟩, (Mv.of_below HB8.out fun q hq => Nat.lt_of_lt_of_le (HLOW.out q hq) (by rw [HST.out]; omega)).trans HM6.out⟩
  case hdone =>
    rintro D own' Wd ⟨A, no, co, h⟩ hmv hD1 hD2 hD3 hD4
    rw [show tot (cols m) = m.length from cols_all m.length m 0 (Nat.le_refl _), keep_all] at h
    clear hst0 hflow
    have h8 : w.heap.size + 2 < w3.heap.size := by have := HS3.out; omega
    have hbx := h.box.cell
    have hfz := h.box.free
    have hD5 : (Wd.setCell ⟨w.heap.size + 2, 0, none⟩ (.slice A no co)).heap[D]? = some (.deferred (some [])) := (Below.heap_setCell _ _ _ _ (by show D ≠ w.heap.size + 2; omega)).trans hD4
    have h2 := (h.same h8).still ((Still.putObj (n0 := w3.heap.size) (own := own') _ (.deferred none) hD1 hD3).toB _)
    have H := Lib.hid h2
    have HD := Lib.hid hD5
    clear h h2 hD4 hD5
    gi_wp2
    refine ⟨by simp, .inl ⟨_, _, rfl, run_takeDeferred HD.out, ?_⟩⟩
    have hbx5 := H.out.box.cell
    refine ⟨_, by simp [results, Try.results14, go_sem, hbx5], A, no, co, m, rfl, HM.out, OwnC.lower H.out.row (by have := HS3.out; omega), H.out.below HBW3.out (by omega) (by omega)⟩
end Go.Proofs.Ytoligmmjmghgnaa
