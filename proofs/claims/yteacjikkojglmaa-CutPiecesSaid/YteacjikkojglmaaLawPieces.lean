/-
  The walk of the law CutPieces.
-/
import Derived.Test.YteacjikkojglmaaLawAll
import Derived.Test.YteacjikkojglmaaPieces
namespace Go.Proofs.Yteacjikkojglmaa
open Go.RowKit Go.Shelf
attribute [local go_sem ↓] Go.wp_at_zero Go.wp_at_succ

/-- the cells of the first pieces -/
def flatTo (P : List (Nat × List Cl)) (k : Nat) : List Cl := ((P.take k).map (·.2)).flatten
theorem flatTo_succ {P : List (Nat × List Cl)} {k : Nat} (hk : k < P.length) : flatTo P (k + 1) = flatTo P k ++ P[k].2 := by
  unfold flatTo
  rw [List.take_succ_eq_append_getElem hk, List.map_append, List.flatten_append]
  simp
theorem flatTo_le (P : List (Nat × List Cl)) (k : Nat) : (flatTo P k).length ≤ ((P.map (·.2)).flatten).length := by
  have : (P.map (·.2)).flatten = flatTo P k ++ ((P.drop k).map (·.2)).flatten := by
    unfold flatTo
    rw [← List.flatten_append, ← List.map_append, List.take_append_drop]
  rw [this]
  simp
theorem flatTo_all (P : List (Nat × List Cl)) {k : Nat} (hk : P.length ≤ k) : flatTo P k = (P.map (·.2)).flatten := by
  unfold flatTo
  rw [List.take_of_length_le hk]
theorem flatTo_apart {P : List (Nat × List Cl)} (h : P.Pairwise fun p q => p.1 ≤ q.1 ∧ ApartRows p.2 q.2) (k : Nat) (hk : k < P.length) : ∀ c ∈ flatTo P k, ∀ d ∈ P[k].2, c.row ≠ d.row := by
  intro c hc d hd
  unfold flatTo at hc
  obtain ⟨g, hg, hc⟩ := List.mem_flatten.1 hc
  obtain ⟨p, hp, rfl⟩ := List.mem_map.1 hg
  obtain ⟨i, hi, rfl⟩ := List.mem_iff_getElem.1 hp
  rw [List.length_take] at hi
  rw [List.getElem_take] at hc
  exact (List.pairwise_iff_getElem.1 h i k (by omega) hk (by omega)).2 c hc d hd

theorem RdLists.grown {w w' : World} {B : Nat} {vs : List Value} {ps : List (List Cl)} (h : RdLists w B vs ps) {row : Option Nat} (hg : w.grownBy w' row) (hB : B ≤ w.heap.size) (hr : ∀ g, row = some g → B ≤ g) : RdLists w' B vs ps := ⟨h.1, fun i hi hi' => by
  obtain ⟨A, c, e, ho⟩ := h.2 i hi hi'
  exact ⟨A, c, e, ho.grown hg hB hr⟩⟩
/-- pieces that are only read -/
def RdPcs (w : World) (B : Nat) (A : Option Addr) (P : List (Nat × List Cl)) (vs : List Value) : Prop := Rd w B A (pcs (P.map (·.1)) vs) ∧ RdLists w B vs (P.map (·.2))
theorem PcSt.rds {w : World} {base e n c : Nat} {A : Option Addr} {P : List (Nat × List Cl)} {vs : List Value} (h : PcSt w base e A n c P vs) : RdPcs w w.heap.size A P vs := ⟨Own.rd h.1 (by decide), h.2.1.rds⟩
theorem RdPcs.grown {w w' : World} {B : Nat} {A : Option Addr} {P : List (Nat × List Cl)} {vs : List Value} (h : RdPcs w B A P vs) {row : Option Nat} (hg : w.grownBy w' row) (hB : B ≤ w.heap.size) (hr : ∀ g, row = some g → B ≤ g) : RdPcs w' B A P vs := ⟨h.1.grown hg hB hr, h.2.grown hg hB hr⟩
theorem RdPcs.below {w w' : World} {B : Nat} {A : Option Addr} {P : List (Nat × List Cl)} {vs : List Value} (h : RdPcs w B A P vs) (hb : Below B w w') : RdPcs w' B A P vs := ⟨h.1.below hb, h.2.below hb⟩
theorem RdPcs.at_ {w : World} {B : Nat} {A : Option Addr} {P : List (Nat × List Cl)} {vs : List Value} (h : RdPcs w B A P vs) (hn : 0 < P.length) :
    ∃ (b o : Nat), A = some ⟨b, o, none⟩ ∧ b < B ∧ ∀ k (hk : k < P.length), ∃ (A2 : Option Addr) (c2 : Nat), w.cell? ⟨b, o + k * 2, none⟩ = some (.int .i64 P[k].1) ∧ w.cell? ⟨b, o + k * 2 + 1, none⟩ = some (.slice A2 P[k].2.length c2) ∧ Rd w B A2 (vals P[k].2) := by
  obtain ⟨h1, h2⟩ := h
  have hvl : vs.length = P.length := by rw [h2.1, List.length_map]
  have hpl := pcs_length (P.map (·.1)) vs (by simp; omega)
  obtain ⟨b, o, e1, hb, hc⟩ := h1.at_ (List.ne_nil_of_length_pos (by omega))
  refine ⟨b, o, e1, hb, fun k hk => ?_⟩
  obtain ⟨x1, x2⟩ := pcs_at hc (by simp; omega) k (by omega)
  obtain ⟨A2, c2, e2, ho⟩ := h2.2 k (by omega) (by simpa using hk)
  simp only [List.getElem_map] at x1 e2 ho
  rw [e2] at x2
  exact ⟨A2, c2, x1, x2, ho⟩

def PInv (w : World) (N : Nat) (A S : Option Addr) (l : List Cl) (ss : List ByteArray) (P : List (Nat × List Cl)) (A1 : Option Addr) (vs : List Value) (k : Nat) (Aa : Option Addr) (na ca : Nat) (wr : World) : Prop :=
  Own wr N 50 6 Aa na ca (vals (flatTo P k)) ∧ na = (flatTo P k).length ∧ RdPcs wr N A1 P vs ∧ Rd wr N A (vals l) ∧ Rd wr N S (strs ss) ∧ N ≤ wr.heap.size ∧ w.heap.size ≤ N ∧ Below w.heap.size w wr
section
variable {w : World} {N : Nat} {A S : Option Addr} {l : List Cl} {ss : List ByteArray} {P : List (Nat × List Cl)} {A1 : Option Addr} {vs : List Value} {k : Nat} {Aa : Option Addr} {na ca : Nat} {wr : World}
theorem PInv.drewN (h : PInv w N A S l ss P A1 vs k Aa na ca wr) (n : Nat) : PInv w N A S l ss P A1 vs k Aa na ca (wr.drewN n) := ⟨h.1, h.2.1, h.2.2.1, h.2.2.2.1, h.2.2.2.2.1, h.2.2.2.2.2.1, h.2.2.2.2.2.2.1, below_drewN h.2.2.2.2.2.2.2 n⟩
theorem PInv.zero {w1 : World} (hp : RdPcs w1 w1.heap.size A1 P vs) (hl : Rd w1 w1.heap.size A (vals l)) (hs : Rd w1 w1.heap.size S (strs ss)) (hb : Below w.heap.size w w1) :
    PInv w w1.heap.size A S l ss P A1 vs 0 (some ⟨w1.heap.size, 0, none⟩) 0 0 (w1.alloc (.cells #[] 50)) :=
  ⟨Own.new0 w1 _ 6, rfl, hp.below ((Below.refl _ _).alloc (Nat.le_refl _) _), hl.alloc (Nat.le_refl _) _, hs.alloc (Nat.le_refl _) _, by rw [World.size_alloc]; omega, hb.size, hb.alloc hb.size _⟩
theorem PInv.more (h : PInv w N A S l ss P A1 vs k Aa na ca wr) {q : List Cl} {lq : Nat} (hk : k < P.length) (hq : P[k].2 = q) (hlq : q.length = lq)
    {A4 : Option Addr} {c4 : Nat} {w4 : World} (ho : Own w4 N 50 6 A4 (na + lq) c4 (vals (flatTo P k) ++ vals q)) (hg : wr.grownBy w4 (blk Aa)) :
    PInv w N A S l ss P A1 vs (k + 1) A4 (na + lq) c4 w4 := by
  obtain ⟨h1, h2, h3, h4, h4', h5, h6, h7⟩ := h
  have hz := hg.size
  have far : ∀ g, blk Aa = some g → N ≤ g := fun g hgg => (h1.lt g hgg).1
  refine ⟨?_, ?_, h3.grown hg h5 far, h4.grown hg h5 far, h4'.grown hg h5 far, by omega, h6, h1.grow h7 (by omega) h6 hg⟩
  · rw [flatTo_succ hk, hq, ← vals_append]; exact ho
  · rw [flatTo_succ hk, hq, List.length_append, ← h2, hlq]
end

theorem toList_ne {a b : ByteArray} (h : a ≠ b) : (a.toList == b.toList) = false := by
  rw [beq_eq_false_iff_ne]
  exact fun e => h (toList_inj e)

set_option maxRecDepth 4000 in
set_option maxHeartbeats 8000000 in
theorem cutPiecesLaw_any (A S : Option Addr) (c d : Nat) (l : List Cl) (ss : List ByteArray) (most : Nat) (w : World) (hl : Rd w w.heap.size A (vals l)) (hs : Rd w w.heap.size S (strs ss)) (hlen : l.length ≤ maxLen) (hlen' : ss.length ≤ maxLen) (hcap : l.length ≤ c) (hm : most ≤ 255) :
    Calls Try.prog 6 #[.slice A l.length c, .slice S ss.length d, .int .u8 most] w fun e w' => e = .returned (.bool true) ∧ Below w.heap.size w w' := by
  have HL := Lib.hid hlen
  have HL' := Lib.hid hlen'
  clear hlen hlen'
  obtain ⟨j0, hj0, jz0, jz1, jz2⟩ := info_parts cellInfo
  go_enter Try.func6, Try.ntmps6
  by_cases hb : bnd l ss = true
  · obtain ⟨b1, b2⟩ := bnd_parts hb
    obtain ⟨m, hmm⟩ : ∃ m, 1 + most % 20 = m := ⟨_, rfl⟩
    have hmi : 1 + (most : Int) % 20 = (m : Int) := by omega
    have hm1 : 1 ≤ m ∧ m ≤ 20 := by omega
    clear hmm
    by_cases hbo : borders ss = true
    · by_cases hr : rising l = true
      · have hspec : allSpec l ss m = (pieces m (splitAt l ss) (ss.length + 1), 0) := by
          unfold allSpec
          rw [if_pos hbo, if_pos hr, if_neg (by omega), Int.toNat_natCast]
        obtain ⟨hgood, hflat⟩ := pieces_all m hbo hr
        obtain ⟨P, hP⟩ : ∃ P, pieces m (splitAt l ss) (ss.length + 1) = P := ⟨_, rfl⟩
        rw [hP] at hspec hgood hflat
        clear hP
        go_wp2_with (first
          | (go_at_call 9; refine (bounded_any A S c d l ss _ _ hl hs HL.out HL'.out).mono ?_; rw [hb]; rintro e w1 ⟨rfl, rfl⟩)
          | (go_at_call 10; refine (shown_any _).mono ?_; rintro e w1 ⟨rfl, hb1⟩
             have hl1 := (hl.below hb1).more hb1.size
             have hs1 := (hs.below hb1).more hb1.size
             have hz1 := hb1.size)
          | (go_at_call 20; refine (cutAll_any A S c d l ss m _ hl1 hs1 (by omega) (by omega) hcap (by omega)).mono ?_; rw [hspec]; rintro e w2 ⟨A1, n1, c1, vs, rfl, ho1, hb2⟩
             have hn1 : P.length = n1 := ho1.2.2
             have HI0 := Lib.hid (PInv.zero ho1.rds ((hl1.below hb2).more hb2.size) ((hs1.below hb2).more hb2.size) (hb1.trans (hb2.mono hz1)))
             have hn1k : n1 ≤ 1001000 := by rw [← hn1]; have := allSpec_count (l := l) (ss := ss) (most := m) (by omega) (by omega); rw [hspec] at this; exact this
             have HN1 := Lib.hid hn1
             clear hl hs hl1 hs1 hb1 hb2 ho1 hn1))
        have HG := Lib.hid hgood
        have HF := Lib.hid hflat
        have hlenP : ∀ k, (flatTo P k).length ≤ l.length := fun k => by have := flatTo_le P k; rwa [HF.out] at this
        have HLP := Lib.hid hlenP
        clear hgood hflat hlenP hspec hmi
        go_loopw [10, 11] (fun all i wr => ∃ (k : Nat) (Aa : Option Addr) (na ca : Nat), k ≤ n1 ∧ all = .slice Aa na ca ∧ i = .int .i64 k ∧ Hid (PInv w w2.heap.size A S l ss P A1 vs k Aa na ca wr)) (fun _ i _ => n1 - (intOf i).toNat)
        case atStart => exact ⟨0, _, 0, 0, Nat.zero_le _, rfl, rfl, HI0⟩
        case round =>
          obtain ⟨k, Aa, na, ca, hk, rfl, rfl, HI⟩ := hrel
          have hna : na ≤ 80 := by have h1 := HI.out.2.1; have h2 := HLP.out k; omega
          have HNA := Lib.hid HI.out.2.1
          by_cases hlt : k < n1
          · have hkp : k < P.length := by rw [HN1.out]; exact hlt
            obtain ⟨b, o, rfl, hb0, hat⟩ := HI.out.2.2.1.at_ (by omega)
            obtain ⟨A2, c2, x1, x2, hrq⟩ := hat k hkp
            obtain ⟨hq1, hq2, hq3, hq4⟩ := HG.out.each _ (List.getElem_mem hkp)
            have hpair := fun j (hj : j < k) => (List.pairwise_iff_getElem.1 HG.out.pair j k (by omega) hkp hj).1
            have hapart := flatTo_apart HG.out.pair k hkp
            obtain ⟨tb, htb⟩ : ∃ tb, P[k].1 = tb := ⟨_, rfl⟩
            obtain ⟨q, hq⟩ : ∃ q, P[k].2 = q := ⟨_, rfl⟩
            rw [htb] at x1 hq4 hpair
            rw [hq] at x2 hrq hq2 hq3 hq4 hapart
            have HQ := Lib.hid hq
            have hq0 : 0 < q.length := List.length_pos_iff.2 hq2
            have hmore := fun lq (h : q.length = lq) (A4 : Option Addr) (c4 : Nat) (W w4 : World) (hW : Below w2.heap.size wr W) => hW
            obtain ⟨bq, oq, rfl, hbq, hcq⟩ := hrq.at_ (vals_ne hq0)
            have HQ4 := Lib.hid hq4
            have HQ3 := Lib.hid hq3
            have HCQ := Lib.hid hcq
            have HRQ := Lib.hid hrq
            obtain ⟨z0, -⟩ := Rd.cell_at (B := 0) hcq 0 hq0
            rw [Nat.zero_mul, Nat.add_zero] at z0
            have hlq80 : q.length ≤ 80 := by
              have h1 := HLP.out (k + 1)
              rw [flatTo_succ hkp, hq, List.length_append] at h1
              omega
            have i1 : (0 : Int) ≤ (k : Int) := by omega
            have i2 : (k : Int) < (n1 : Int) := by omega
            obtain ⟨lq, hlq⟩ : ∃ lq, q.length = lq := ⟨_, rfl⟩
            rw [hlq] at x2 hlq80
            have HLQ := Lib.hid hlq
            have hlq0 : 0 < lq := by omega
            have i3 : (0 : Int) < (lq : Int) := by omega
            have i4 : ¬ (lq : Int) = 0 := by omega
            have i5 : ((lq : Int) == 0) = false := by simp; omega
            have i6 : (lq == 0) = false := by simp; omega
            have i7 : ¬ lq = 0 := by omega
            clear htb hq hq1 hq2 hq3 hq4 hcq hrq hmore hlq
            by_cases hk0 : k = 0
            · have hd : decide (0 < k) = false := by simp; omega
              have HK0 := Lib.hid hk0
              clear hk0
              clear hat hapart hpair
              have HC : wr.cell? ⟨bq, oq, none⟩ = some (.string q[0].row) := z0
              go_wp2
              refine region_wz (fun W' => W'.cell? ⟨bq, oq, none⟩ = some (.string q[0].row)) none (by kernel_rfl) ?_
              apply WZ.take (i := 0) (some 64) rfl rfl (by kernel_rfl) (by kernel_rfl) (by kernel_rfl) (calm_panic _) (by kernel_rfl)
              case hy => (refine .inl ⟨by kernel_rfl, fun W hC => ?_⟩; (try dsimp only at hC); go_simp; (try simp only [hd,i4,i5,i6,i7]); rfl)
              case hC => exact HC
              case ha => (simp only [Act.put, List.setIfInBounds_toArray, List.set_cons_zero, List.set_cons_succ]; rfl)
              apply WZ.take (i := 1) (some 65) rfl rfl (by kernel_rfl) (by kernel_rfl) (by kernel_rfl) (calm_panic _) (by kernel_rfl)
              case hy => (refine .inl ⟨by kernel_rfl, fun W hC => ?_⟩; (try dsimp only at hC); go_simp; (try simp only [hd,i4,i5,i6,i7]); rfl)
              case hC => exact HC
              case ha => (simp only [Act.put, List.setIfInBounds_toArray, List.set_cons_zero, List.set_cons_succ]; rfl)
              apply WZ.take (i := 2) (some 66) rfl rfl (by kernel_rfl) (by kernel_rfl) (by kernel_rfl) (calm_panic _) (by kernel_rfl)
              case hy => (refine .inl ⟨by kernel_rfl, fun W hC => ?_⟩; (try dsimp only at hC); go_simp; (try simp only [hd,i4,i5,i6,i7]); rfl)
              case hC => exact HC
              case ha => (simp only [Act.put, List.setIfInBounds_toArray, List.set_cons_zero, List.set_cons_succ]; rfl)
              apply WZ.take (i := 3) (some 67) rfl rfl (by kernel_rfl) (by kernel_rfl) (by kernel_rfl) (calm_panic _) (by kernel_rfl)
              case hy => (refine .inl ⟨by kernel_rfl, fun W hC => ?_⟩; (try dsimp only at hC); go_simp; (try simp only [hd,i4,i5,i6,i7]); rfl)
              case hC => exact HC
              case ha => (simp only [Act.put, List.setIfInBounds_toArray, List.set_cons_zero, List.set_cons_succ]; rfl)
              apply WZ.take (i := 4) (some 68) rfl rfl (by kernel_rfl) (by kernel_rfl) (by kernel_rfl) (calm_panic _) (by kernel_rfl)
              case hy => (refine .inl ⟨by kernel_rfl, fun W hC => ?_⟩; (try dsimp only at hC); go_simp; (try simp only [hd,i4,i5,i6,i7]); rfl)
              case hC => exact HC
              case ha => (simp only [Act.put, List.setIfInBounds_toArray, List.set_cons_zero, List.set_cons_succ]; rfl)
              apply WZ.take (i := 5) (some 69) rfl rfl (by kernel_rfl) (by kernel_rfl) (by kernel_rfl) (calm_panic _) (by kernel_rfl)
              case hy => (refine .inl ⟨by kernel_rfl, fun W hC => ?_⟩; (try dsimp only at hC); go_simp; (try simp only [hd,i4,i5,i6,i7]); rfl)
              case hC => exact HC
              case ha => (simp only [Act.put, List.setIfInBounds_toArray, List.set_cons_zero, List.set_cons_succ]; rfl)
              apply WZ.take (i := 6) (some 70) rfl rfl (by kernel_rfl) (by kernel_rfl) (by kernel_rfl) (calm_panic _) (by kernel_rfl)
              case hy => (refine .inl ⟨by kernel_rfl, fun W hC => ?_⟩; (try dsimp only at hC); go_simp; (try simp only [hd,i4,i5,i6,i7]); rfl)
              case hC => exact HC
              case ha => (simp only [Act.put, List.setIfInBounds_toArray, List.set_cons_zero, List.set_cons_succ]; rfl)
              apply WZ.take (i := 7) (some 71) rfl rfl (by kernel_rfl) (by kernel_rfl) (by kernel_rfl) (calm_panic _) (by kernel_rfl)
              case hy => exact .inr ⟨by kernel_rfl, rfl⟩
              case hC => exact HC
              case ha => (simp only [Act.put, List.setIfInBounds_toArray, List.set_cons_zero, List.set_cons_succ]; rfl)
              apply WZ.take (i := 8) (some 72) rfl rfl (by kernel_rfl) (by kernel_rfl) (by kernel_rfl) (calm_panic _) (by kernel_rfl)
              case hy => exact .inr ⟨by kernel_rfl, rfl⟩
              case hC => exact HC
              case ha => (simp only [Act.put, List.setIfInBounds_toArray, List.set_cons_zero, List.set_cons_succ]; rfl)
              apply WZ.take (i := 9) (some 73) rfl rfl (by kernel_rfl) (by kernel_rfl) (by kernel_rfl) (calm_panic _) (by kernel_rfl)
              case hy => exact .inr ⟨by kernel_rfl, rfl⟩
              case hC => exact HC
              case ha => (simp only [Act.put, List.setIfInBounds_toArray, List.set_cons_zero, List.set_cons_succ]; rfl)
              apply WZ.take (i := 10) (some 74) rfl rfl (by kernel_rfl) (by kernel_rfl) (by kernel_rfl) (calm_panic _) (by kernel_rfl)
              case hy => exact .inr ⟨by kernel_rfl, rfl⟩
              case hC => exact HC
              case ha => (simp only [Act.put, List.setIfInBounds_toArray, List.set_cons_zero, List.set_cons_succ]; rfl)
              apply WZ.take (i := 11) (some 75) rfl rfl (by kernel_rfl) (by kernel_rfl) (by kernel_rfl) (calm_panic _) (by kernel_rfl)
              case hy => exact .inr ⟨by kernel_rfl, rfl⟩
              case hC => exact HC
              case ha => (simp only [Act.put, List.setIfInBounds_toArray, List.set_cons_zero, List.set_cons_succ]; rfl)
              apply WZ.take (i := 12) (some 76) rfl rfl (by kernel_rfl) (by kernel_rfl) (by kernel_rfl) (calm_panic _) (by kernel_rfl)
              case hy => exact .inr ⟨by kernel_rfl, rfl⟩
              case hC => exact HC
              case ha => (simp only [Act.put, List.setIfInBounds_toArray, List.set_cons_zero, List.set_cons_succ]; rfl)
              apply WZ.take (i := 13) (some 77) rfl rfl (by kernel_rfl) (by kernel_rfl) (by kernel_rfl) (calm_panic _) (by kernel_rfl)
              case hy => exact .inr ⟨by kernel_rfl, rfl⟩
              case hC => exact HC
              case ha => (simp only [Act.put, List.setIfInBounds_toArray, List.set_cons_zero, List.set_cons_succ]; rfl)
              apply WZ.take (i := 14) (some 78) rfl rfl (by kernel_rfl) (by kernel_rfl) (by kernel_rfl) (calm_panic _) (by kernel_rfl)
              case hy => exact .inr ⟨by kernel_rfl, rfl⟩
              case hC => exact HC
              case ha => (simp only [Act.put, List.setIfInBounds_toArray, List.set_cons_zero, List.set_cons_succ]; rfl)
              apply WZ.take (i := 15) (some 79) rfl rfl (by kernel_rfl) (by kernel_rfl) (by kernel_rfl) (calm_panic _) (by kernel_rfl)
              case hy => exact .inr ⟨by kernel_rfl, rfl⟩
              case hC => exact HC
              case ha => (simp only [Act.put, List.setIfInBounds_toArray, List.set_cons_zero, List.set_cons_succ]; rfl)
              apply WZ.take (i := 16) (some 80) rfl rfl (by kernel_rfl) (by kernel_rfl) (by kernel_rfl) (calm_panic _) (by kernel_rfl)
              case hy => exact .inr ⟨by kernel_rfl, rfl⟩
              case hC => exact HC
              case ha => (simp only [Act.put, List.setIfInBounds_toArray, List.set_cons_zero, List.set_cons_succ]; rfl)
              apply WZ.take (i := 17) (some 81) rfl rfl (by kernel_rfl) (by kernel_rfl) (by kernel_rfl) (calm_panic _) (by kernel_rfl)
              case hy => exact .inr ⟨by kernel_rfl, rfl⟩
              case hC => exact HC
              case ha => (simp only [Act.put, List.setIfInBounds_toArray, List.set_cons_zero, List.set_cons_succ]; rfl)
              apply WZ.take (i := 18) (some 82) rfl rfl (by kernel_rfl) (by kernel_rfl) (by kernel_rfl) (calm_panic _) (by kernel_rfl)
              case hy => exact .inr ⟨by kernel_rfl, rfl⟩
              case hC => exact HC
              case ha => (simp only [Act.put, List.setIfInBounds_toArray, List.set_cons_zero, List.set_cons_succ]; rfl)
              apply WZ.take (i := 19) (some 83) rfl rfl (by kernel_rfl) (by kernel_rfl) (by kernel_rfl) (calm_panic _) (by kernel_rfl)
              case hy => exact .inr ⟨by kernel_rfl, rfl⟩
              case hC => exact HC
              case ha => (simp only [Act.put, List.setIfInBounds_toArray, List.set_cons_zero, List.set_cons_succ]; rfl)
              apply WZ.take (i := 20) (some 84) rfl rfl (by kernel_rfl) (by kernel_rfl) (by kernel_rfl) (calm_panic _) (by kernel_rfl)
              case hy => exact .inr ⟨by kernel_rfl, rfl⟩
              case hC => exact HC
              case ha => (simp only [Act.put, List.setIfInBounds_toArray, List.set_cons_zero, List.set_cons_succ]; rfl)
              apply WZ.take (i := 21) (some 85) rfl rfl (by kernel_rfl) (by kernel_rfl) (by kernel_rfl) (calm_panic _) (by kernel_rfl)
              case hy => exact .inr ⟨by kernel_rfl, rfl⟩
              case hC => exact HC
              case ha => (simp only [Act.put, List.setIfInBounds_toArray, List.set_cons_zero, List.set_cons_succ]; rfl)
              apply WZ.take (i := 22) (some 86) rfl rfl (by kernel_rfl) (by kernel_rfl) (by kernel_rfl) (calm_panic _) (by kernel_rfl)
              case hy => exact .inr ⟨by kernel_rfl, rfl⟩
              case hC => exact HC
              case ha => (simp only [Act.put, List.setIfInBounds_toArray, List.set_cons_zero, List.set_cons_succ]; rfl)
              apply WZ.take (i := 23) (some 87) rfl rfl (by kernel_rfl) (by kernel_rfl) (by kernel_rfl) (calm_panic _) (by kernel_rfl)
              case hy => exact .inr ⟨by kernel_rfl, rfl⟩
              case hC => exact HC
              case ha => (simp only [Act.put, List.setIfInBounds_toArray, List.set_cons_zero, List.set_cons_succ]; rfl)
              apply WZ.take (i := 24) (some 88) rfl rfl (by kernel_rfl) (by kernel_rfl) (by kernel_rfl) (calm_panic _) (by kernel_rfl)
              case hy => exact .inr ⟨by kernel_rfl, rfl⟩
              case hC => exact HC
              case ha => (simp only [Act.put, List.setIfInBounds_toArray, List.set_cons_zero, List.set_cons_succ]; rfl)
              apply WZ.take (i := 25) (some 89) rfl rfl (by kernel_rfl) (by kernel_rfl) (by kernel_rfl) (calm_panic _) (by kernel_rfl)
              case hy => exact .inr ⟨by kernel_rfl, rfl⟩
              case hC => exact HC
              case ha => (simp only [Act.put, List.setIfInBounds_toArray, List.set_cons_zero, List.set_cons_succ]; rfl)
              apply WZ.take (i := 26) (some 90) rfl rfl (by kernel_rfl) (by kernel_rfl) (by kernel_rfl) (calm_panic _) (by kernel_rfl)
              case hy => exact .inr ⟨by kernel_rfl, rfl⟩
              case hC => exact HC
              case ha => (simp only [Act.put, List.setIfInBounds_toArray, List.set_cons_zero, List.set_cons_succ]; rfl)
              apply WZ.take (i := 27) (some 91) rfl rfl (by kernel_rfl) (by kernel_rfl) (by kernel_rfl) (calm_panic _) (by kernel_rfl)
              case hy => exact .inr ⟨by kernel_rfl, rfl⟩
              case hC => exact HC
              case ha => (simp only [Act.put, List.setIfInBounds_toArray, List.set_cons_zero, List.set_cons_succ]; rfl)
              apply WZ.take (i := 28) (some 92) rfl rfl (by kernel_rfl) (by kernel_rfl) (by kernel_rfl) (calm_panic _) (by kernel_rfl)
              case hy => exact .inr ⟨by kernel_rfl, rfl⟩
              case hC => exact HC
              case ha => (simp only [Act.put, List.setIfInBounds_toArray, List.set_cons_zero, List.set_cons_succ]; rfl)
              apply WZ.take (i := 29) (some 93) rfl rfl (by kernel_rfl) (by kernel_rfl) (by kernel_rfl) (calm_panic _) (by kernel_rfl)
              case hy => exact .inr ⟨by kernel_rfl, rfl⟩
              case hC => exact HC
              case ha => (simp only [Act.put, List.setIfInBounds_toArray, List.set_cons_zero, List.set_cons_succ]; rfl)
              apply WZ.take (i := 30) (some 94) rfl rfl (by kernel_rfl) (by kernel_rfl) (by kernel_rfl) (calm_panic _) (by kernel_rfl)
              case hy => exact .inr ⟨by kernel_rfl, rfl⟩
              case hC => exact HC
              case ha => (simp only [Act.put, List.setIfInBounds_toArray, List.set_cons_zero, List.set_cons_succ]; rfl)
              apply WZ.take (i := 31) (some 95) rfl rfl (by kernel_rfl) (by kernel_rfl) (by kernel_rfl) (calm_panic _) (by kernel_rfl)
              case hy => exact .inr ⟨by kernel_rfl, rfl⟩
              case hC => exact HC
              case ha => (simp only [Act.put, List.setIfInBounds_toArray, List.set_cons_zero, List.set_cons_succ]; rfl)
              apply WZ.take (i := 32) (some 96) rfl rfl (by kernel_rfl) (by kernel_rfl) (by kernel_rfl) (calm_panic _) (by kernel_rfl)
              case hy => exact .inr ⟨by kernel_rfl, rfl⟩
              case hC => exact HC
              case ha => (simp only [Act.put, List.setIfInBounds_toArray, List.set_cons_zero, List.set_cons_succ]; rfl)
              apply WZ.take (i := 33) (some 97) rfl rfl (by kernel_rfl) (by kernel_rfl) (by kernel_rfl) (calm_panic _) (by kernel_rfl)
              case hy => (refine .inl ⟨by kernel_rfl, fun W hC => ?_⟩; (try dsimp only at hC); go_simp; (try simp only [hd,i4,i5,i6,i7]); rfl)
              case hC => exact HC
              case ha => (simp only [Act.put, List.setIfInBounds_toArray, List.set_cons_zero, List.set_cons_succ]; rfl)
              apply WZ.take (i := 34) (some 98) rfl rfl (by kernel_rfl) (by kernel_rfl) (by kernel_rfl) (calm_panic _) (by kernel_rfl)
              case hy => (refine .inl ⟨by kernel_rfl, fun W hC => ?_⟩; (try dsimp only at hC); go_simp; (try simp only [hd,i4,i5,i6,i7]); rfl)
              case hC => exact HC
              case ha => (simp only [Act.put, List.setIfInBounds_toArray, List.set_cons_zero, List.set_cons_succ]; rfl)
              refine WZ.done (by kernel_rfl) ?_ _
              simp only [Calm, Exit.then]
              go_wp2
              go_loopw [13] (fun x wr' => ∃ (x' n : Nat), x' ≤ lq ∧ x = .int .i64 x' ∧ wr' = wr.drewN n) (fun x _ => lq - (intOf x).toNat)
              case atStart => exact ⟨0, _, Nat.zero_le _, rfl, rfl⟩
              case round =>
                obtain ⟨x, n, hx, rfl, rfl⟩ := hrel
                by_cases hxl : x < lq
                · have hxq : x < q.length := by rw [HLQ.out]; exact hxl
                  obtain ⟨zx, -⟩ := Rd.cell_at (B := 0) HCQ.out x hxq
                  have hpl := HQ4.out _ (List.getElem_mem hxq)
                  obtain ⟨r, hr⟩ : ∃ r, q[x].row = r := ⟨_, rfl⟩
                  rw [hr] at zx hpl
                  have hplace := fun (W : World) h => cutPlace_any S d ss r W w2.heap.size h HL'.out
                  rw [hpl] at hplace
                  have HC : (wr.drewN n).cell? ⟨bq, oq + x * 6, none⟩ = some (.string r) ∧ (wr.drewN n).cell? ⟨b, o + k * 2, none⟩ = some (.int .i64 tb) := ⟨zx, x1⟩
                  have k5 : (0 : Int) ≤ (x : Int) := by omega
                  have k6 : (x : Int) < (lq : Int) := by omega
                  clear hr hpl zx
                  go_wp2
                  refine region_wz (fun W' => W'.cell? ⟨bq, oq + x * 6, none⟩ = some (.string r) ∧ W'.cell? ⟨b, o + k * 2, none⟩ = some (.int .i64 tb)) none (by kernel_rfl) ?_
                  apply WZ.take (i := 0) (some 105) rfl rfl (by kernel_rfl) (by kernel_rfl) (by kernel_rfl) (calm_panic _) (by kernel_rfl)
                  case hy => (refine .inl ⟨by kernel_rfl, fun W hC => ?_⟩; (try dsimp only at hC); go_simp; rfl)
                  case hC => exact HC
                  case ha => (simp only [Act.put, List.setIfInBounds_toArray, List.set_cons_zero, List.set_cons_succ]; rfl)
                  apply WZ.take (i := 1) (some 106) rfl rfl (by kernel_rfl) (by kernel_rfl) (by kernel_rfl) (calm_panic _) (by kernel_rfl)
                  case hy => (refine .inl ⟨by kernel_rfl, fun W hC => ?_⟩; (try dsimp only at hC); go_simp; rfl)
                  case hC => exact HC
                  case ha => (simp only [Act.put, List.setIfInBounds_toArray, List.set_cons_zero, List.set_cons_succ]; rfl)
                  apply WZ.take (i := 2) (some 107) rfl rfl (by kernel_rfl) (by kernel_rfl) (by kernel_rfl) (calm_panic _) (by kernel_rfl)
                  case hy => (refine .inl ⟨by kernel_rfl, fun W hC => ?_⟩; (try dsimp only at hC); go_simp; rfl)
                  case hC => exact HC
                  case ha => (simp only [Act.put, List.setIfInBounds_toArray, List.set_cons_zero, List.set_cons_succ]; rfl)
                  apply WZ.take (i := 3) (some 108) rfl rfl (by kernel_rfl) (by kernel_rfl) (by kernel_rfl) (calm_panic _) (by kernel_rfl)
                  case hy => (refine .inl ⟨by kernel_rfl, fun W hC => ?_⟩; (try dsimp only at hC); go_simp; rfl)
                  case hC => exact HC
                  case ha => (simp only [Act.put, List.setIfInBounds_toArray, List.set_cons_zero, List.set_cons_succ]; rfl)
                  apply WZ.take (i := 4) (some 109) rfl rfl (by kernel_rfl) (by kernel_rfl) (by kernel_rfl) (calm_panic _) (by kernel_rfl)
                  case hy => (refine .inl ⟨by kernel_rfl, fun W hC => ?_⟩; (try dsimp only at hC); go_simp; rfl)
                  case hC => exact HC
                  case ha => (simp only [Act.put, List.setIfInBounds_toArray, List.set_cons_zero, List.set_cons_succ]; rfl)
                  apply WZ.take (i := 5) (some 110) rfl rfl (by kernel_rfl) (by kernel_rfl) (by kernel_rfl) (calm_panic _) (by kernel_rfl)
                  case hy => (refine .inl ⟨by kernel_rfl, fun W hC => ?_⟩; (try dsimp only at hC); go_simp; rfl)
                  case hC => exact HC
                  case ha => (simp only [Act.put, List.setIfInBounds_toArray, List.set_cons_zero, List.set_cons_succ]; rfl)
                  apply WZ.take (i := 7) (some 112) rfl rfl (by kernel_rfl) (by kernel_rfl) (by kernel_rfl) (calm_panic _) (by kernel_rfl)
                  case hy => (refine .inl ⟨by kernel_rfl, fun W hC => ?_⟩; (try dsimp only at hC); go_simp; rfl)
                  case hC => exact HC
                  case ha => (simp only [Act.put, List.setIfInBounds_toArray, List.set_cons_zero, List.set_cons_succ]; rfl)
                  apply WZ.take (i := 8) (some 113) rfl rfl (by kernel_rfl) (by kernel_rfl) (by kernel_rfl) (calm_panic _) (by kernel_rfl)
                  case hy => (refine .inl ⟨by kernel_rfl, fun W hC => ?_⟩; (try dsimp only at hC); go_simp; rfl)
                  case hC => exact HC
                  case ha => (simp only [Act.put, List.setIfInBounds_toArray, List.set_cons_zero, List.set_cons_succ]; rfl)
                  apply WZ.take (i := 9) (some 114) rfl rfl (by kernel_rfl) (by kernel_rfl) (by kernel_rfl) (calm_panic _) (by kernel_rfl)
                  case hy => (refine .inl ⟨by kernel_rfl, fun W hC => ?_⟩; (try dsimp only at hC); go_simp; rfl)
                  case hC => exact HC
                  case ha => (simp only [Act.put, List.setIfInBounds_toArray, List.set_cons_zero, List.set_cons_succ]; rfl)
                  apply WZ.take (i := 10) (some 115) rfl rfl (by kernel_rfl) (by kernel_rfl) (by kernel_rfl) (calm_panic _) (by kernel_rfl)
                  case hy => (refine .inl ⟨by kernel_rfl, fun W hC => ?_⟩; (try dsimp only at hC); go_simp; rfl)
                  case hC => exact HC
                  case ha => (simp only [Act.put, List.setIfInBounds_toArray, List.set_cons_zero, List.set_cons_succ]; rfl)
                  apply WZ.take (i := 11) (some 116) rfl rfl (by kernel_rfl) (by kernel_rfl) (by kernel_rfl) (calm_panic _) (by kernel_rfl)
                  case hy => (refine .inl ⟨by kernel_rfl, fun W hC => ?_⟩; (try dsimp only at hC); go_simp; rfl)
                  case hC => exact HC
                  case ha => (simp only [Act.put, List.setIfInBounds_toArray, List.set_cons_zero, List.set_cons_succ]; rfl)
                  -- 6
                  refine WZ.one (i := 6) rfl (by kernel_rfl) ?_
                  conv => arg 4; arg 1; whnf
                  go_wp2_with (go_at_call 16; refine (hplace _ (Rd.drewN HI.out.2.2.2.2.1 _)).mono ?_; rintro e w5 ⟨rfl, rfl⟩)
                  refine ⟨HC, ?_⟩
                  apply WZ.take (i := 12) (some 117) rfl rfl (by kernel_rfl) (by kernel_rfl) (by kernel_rfl) (calm_panic _) (by kernel_rfl)
                  case hy => (refine .inl ⟨by kernel_rfl, fun W hC => ?_⟩; (try dsimp only at hC); go_simp; rfl)
                  case hC => exact HC
                  case ha => (simp only [Act.put, List.setIfInBounds_toArray, List.set_cons_zero, List.set_cons_succ]; rfl)
                  refine WZ.done (by kernel_rfl) ?_ _
                  simp only [Calm, Exit.then]
                  go_wp2
                  exact ⟨⟨x + 1, _, by omega, by go_num, rfl⟩, by simp [intOf]; omega⟩
                · have k6 : decide ((x : Int) < (lq : Int)) = false := decide_eq_false (by omega)
                  by_cases hlm : lq ≤ m
                  · have hm2 : decide ((m : Int) < (lq : Int)) = false := decide_eq_false (by omega)
                    have hm4 : ¬ m < lq := by omega
                    have hm3 : decide (m < lq) = false := decide_eq_false hm4
                    have HC : True := trivial
                    go_wp2
                    refine region_wz (fun W' => True) none (by kernel_rfl) ?_
                    apply WZ.take (i := 0) (some 118) rfl rfl (by kernel_rfl) (by kernel_rfl) (by kernel_rfl) (calm_panic _) (by kernel_rfl)
                    case hy => (refine .inl ⟨by kernel_rfl, fun W hC => ?_⟩; (try dsimp only at hC); go_simp; (try simp only [hm2,hm3,hm4]); rfl)
                    case hC => exact HC
                    case ha => (simp only [Act.put, List.setIfInBounds_toArray, List.set_cons_zero, List.set_cons_succ]; rfl)
                    apply WZ.take (i := 1) (some 119) rfl rfl (by kernel_rfl) (by kernel_rfl) (by kernel_rfl) (calm_panic _) (by kernel_rfl)
                    case hy => (refine .inl ⟨by kernel_rfl, fun W hC => ?_⟩; (try dsimp only at hC); go_simp; (try simp only [hm2,hm3,hm4]); rfl)
                    case hC => exact HC
                    case ha => (simp only [Act.put, List.setIfInBounds_toArray, List.set_cons_zero, List.set_cons_succ]; rfl)
                    apply WZ.take (i := 2) (some 120) rfl rfl (by kernel_rfl) (by kernel_rfl) (by kernel_rfl) (calm_panic _) (by kernel_rfl)
                    case hy => (refine .inl ⟨by kernel_rfl, fun W hC => ?_⟩; (try dsimp only at hC); go_simp; (try simp only [hm2,hm3,hm4]); rfl)
                    case hC => exact HC
                    case ha => (simp only [Act.put, List.setIfInBounds_toArray, List.set_cons_zero, List.set_cons_succ]; rfl)
                    apply WZ.take (i := 3) (some 121) rfl rfl (by kernel_rfl) (by kernel_rfl) (by kernel_rfl) (calm_panic _) (by kernel_rfl)
                    case hy => (refine .inl ⟨by kernel_rfl, fun W hC => ?_⟩; (try dsimp only at hC); go_simp; (try simp only [hm2,hm3,hm4]); rfl)
                    case hC => exact HC
                    case ha => (simp only [Act.put, List.setIfInBounds_toArray, List.set_cons_zero, List.set_cons_succ]; rfl)
                    apply WZ.take (i := 4) (some 122) rfl rfl (by kernel_rfl) (by kernel_rfl) (by kernel_rfl) (calm_panic _) (by kernel_rfl)
                    case hy => (refine .inl ⟨by kernel_rfl, fun W hC => ?_⟩; (try dsimp only at hC); go_simp; (try simp only [hm2,hm3,hm4]); rfl)
                    case hC => exact HC
                    case ha => (simp only [Act.put, List.setIfInBounds_toArray, List.set_cons_zero, List.set_cons_succ]; rfl)
                    apply WZ.take (i := 5) (some 123) rfl rfl (by kernel_rfl) (by kernel_rfl) (by kernel_rfl) (calm_panic _) (by kernel_rfl)
                    case hy => exact .inr ⟨by kernel_rfl, rfl⟩
                    case hC => exact HC
                    case ha => (simp only [Act.put, List.setIfInBounds_toArray, List.set_cons_zero, List.set_cons_succ]; rfl)
                    apply WZ.take (i := 6) (some 124) rfl rfl (by kernel_rfl) (by kernel_rfl) (by kernel_rfl) (calm_panic _) (by kernel_rfl)
                    case hy => exact .inr ⟨by kernel_rfl, rfl⟩
                    case hC => exact HC
                    case ha => (simp only [Act.put, List.setIfInBounds_toArray, List.set_cons_zero, List.set_cons_succ]; rfl)
                    apply WZ.take (i := 7) (some 125) rfl rfl (by kernel_rfl) (by kernel_rfl) (by kernel_rfl) (calm_panic _) (by kernel_rfl)
                    case hy => exact .inr ⟨by kernel_rfl, rfl⟩
                    case hC => exact HC
                    case ha => (simp only [Act.put, List.setIfInBounds_toArray, List.set_cons_zero, List.set_cons_succ]; rfl)
                    apply WZ.take (i := 8) (some 126) rfl rfl (by kernel_rfl) (by kernel_rfl) (by kernel_rfl) (calm_panic _) (by kernel_rfl)
                    case hy => exact .inr ⟨by kernel_rfl, rfl⟩
                    case hC => exact HC
                    case ha => (simp only [Act.put, List.setIfInBounds_toArray, List.set_cons_zero, List.set_cons_succ]; rfl)
                    apply WZ.take (i := 9) (some 127) rfl rfl (by kernel_rfl) (by kernel_rfl) (by kernel_rfl) (calm_panic _) (by kernel_rfl)
                    case hy => exact .inr ⟨by kernel_rfl, rfl⟩
                    case hC => exact HC
                    case ha => (simp only [Act.put, List.setIfInBounds_toArray, List.set_cons_zero, List.set_cons_succ]; rfl)
                    apply WZ.take (i := 10) (some 128) rfl rfl (by kernel_rfl) (by kernel_rfl) (by kernel_rfl) (calm_panic _) (by kernel_rfl)
                    case hy => exact .inr ⟨by kernel_rfl, rfl⟩
                    case hC => exact HC
                    case ha => (simp only [Act.put, List.setIfInBounds_toArray, List.set_cons_zero, List.set_cons_succ]; rfl)
                    apply WZ.take (i := 11) (some 129) rfl rfl (by kernel_rfl) (by kernel_rfl) (by kernel_rfl) (calm_panic _) (by kernel_rfl)
                    case hy => exact .inr ⟨by kernel_rfl, rfl⟩
                    case hC => exact HC
                    case ha => (simp only [Act.put, List.setIfInBounds_toArray, List.set_cons_zero, List.set_cons_succ]; rfl)
                    apply WZ.take (i := 12) (some 130) rfl rfl (by kernel_rfl) (by kernel_rfl) (by kernel_rfl) (calm_panic _) (by kernel_rfl)
                    case hy => exact .inr ⟨by kernel_rfl, rfl⟩
                    case hC => exact HC
                    case ha => (simp only [Act.put, List.setIfInBounds_toArray, List.set_cons_zero, List.set_cons_succ]; rfl)
                    apply WZ.take (i := 13) (some 131) rfl rfl (by kernel_rfl) (by kernel_rfl) (by kernel_rfl) (calm_panic _) (by kernel_rfl)
                    case hy => exact .inr ⟨by kernel_rfl, rfl⟩
                    case hC => exact HC
                    case ha => (simp only [Act.put, List.setIfInBounds_toArray, List.set_cons_zero, List.set_cons_succ]; rfl)
                    apply WZ.take (i := 14) (some 132) rfl rfl (by kernel_rfl) (by kernel_rfl) (by kernel_rfl) (calm_panic _) (by kernel_rfl)
                    case hy => exact .inr ⟨by kernel_rfl, rfl⟩
                    case hC => exact HC
                    case ha => (simp only [Act.put, List.setIfInBounds_toArray, List.set_cons_zero, List.set_cons_succ]; rfl)
                    apply WZ.take (i := 15) (some 133) rfl rfl (by kernel_rfl) (by kernel_rfl) (by kernel_rfl) (calm_panic _) (by kernel_rfl)
                    case hy => exact .inr ⟨by kernel_rfl, rfl⟩
                    case hC => exact HC
                    case ha => (simp only [Act.put, List.setIfInBounds_toArray, List.set_cons_zero, List.set_cons_succ]; rfl)
                    apply WZ.take (i := 16) (some 134) rfl rfl (by kernel_rfl) (by kernel_rfl) (by kernel_rfl) (calm_panic _) (by kernel_rfl)
                    case hy => exact .inr ⟨by kernel_rfl, rfl⟩
                    case hC => exact HC
                    case ha => (simp only [Act.put, List.setIfInBounds_toArray, List.set_cons_zero, List.set_cons_succ]; rfl)
                    apply WZ.take (i := 17) (some 135) rfl rfl (by kernel_rfl) (by kernel_rfl) (by kernel_rfl) (calm_panic _) (by kernel_rfl)
                    case hy => (refine .inl ⟨by kernel_rfl, fun W hC => ?_⟩; (try dsimp only at hC); go_simp; (try simp only [hm2,hm3,hm4]); rfl)
                    case hC => exact HC
                    case ha => (simp only [Act.put, List.setIfInBounds_toArray, List.set_cons_zero, List.set_cons_succ]; rfl)
                    refine WZ.done (by kernel_rfl) ?_ _
                    simp only [Calm, Exit.then]
                    have HI3 := Lib.hid (HI.out.drewN (n + 1))
                    have B1 := Lib.hid (show (vals q).length = lq * 6 by rw [length_vals, HLQ.out]; omega)
                    have B2 := Lib.hid (show na + lq ≤ maxLen by unfold maxLen; omega)
                    have B3 := Lib.hid (show (na + lq) * 72 ≤ 140737488355328 by omega)
                    have B4 := Lib.hid HI3.out.1
                    have B5 := Lib.hid (Rd.drewN HRQ.out (n + 1))
                    have B6 := Lib.hid HI3.out.2.2.2.2.2.1
                    go_wp2_with (at_builtin; go_loud (refine wpList_app _ rfl _ _ _ rfl w2.heap.size 50 j0 zeroCell 6 72 Try.underlying22 hj0 jz0 jz1 jz2 rfl (by decide) _ _ _ _ rfl B4.out _ _ lq _ (vals q) rfl B5.out B1.out (vals_one _) B2.out B3.out B6.out ?_); intro A4 c4 w4 ho4 hg4 hat4; have HF := Lib.hid (HI3.out.more hkp HQ.out HLQ.out ho4 hg4); clear ho4 hg4 hat4 B1 B2 B3 B4 B5 B6)
                    exact ⟨⟨k + 1, A4, _, c4, by omega, rfl, by go_num, HF⟩, by simp [intOf]; omega⟩
                  · have hm2 : decide ((m : Int) < (lq : Int)) = true := decide_eq_true (by omega)
                    have hm4 : m < lq := by omega
                    have hm3 : decide (m < lq) = true := decide_eq_true hm4
                    obtain ⟨f, hf⟩ : ∃ f, lq = f + 1 := ⟨lq - 1, by omega⟩
                    have hfq : f < q.length := by rw [HLQ.out]; omega
                    obtain ⟨zf, -⟩ := Rd.cell_at (B := 0) HCQ.out f hfq
                    have hone : q[0].row = q[f].row := by
                      rcases HQ3.out with h | h
                      · exact absurd h (by rw [HLQ.out]; exact hlm)
                      · exact h _ (List.getElem_mem _) _ (List.getElem_mem _)
                    have hm5 : IntKind.i64.wrap ((lq : Int) - 1) = (f : Int) := by rw [IntWalk.i64_in _ (by omega)]; omega
                    have k7 : (0 : Int) ≤ (f : Int) := by omega
                    have k8 : (f : Int) < (lq : Int) := by omega
                    have z0' := z0
                    rw [← hone] at zf
                    obtain ⟨r0, hr0⟩ : ∃ r, q[0].row = r := ⟨_, rfl⟩
                    rw [hr0] at zf z0'
                    have HC : (wr.drewN n).cell? ⟨bq, oq, none⟩ = some (.string r0) ∧ (wr.drewN n).cell? ⟨bq, oq + f * 6, none⟩ = some (.string r0) := ⟨z0', zf⟩
                    have HFF := Lib.hid hf
                    clear hone hr0 zf hf
                    go_wp2
                    refine region_wz (fun W' => W'.cell? ⟨bq, oq, none⟩ = some (.string r0) ∧ W'.cell? ⟨bq, oq + f * 6, none⟩ = some (.string r0)) none (by kernel_rfl) ?_
                    apply WZ.take (i := 0) (some 118) rfl rfl (by kernel_rfl) (by kernel_rfl) (by kernel_rfl) (calm_panic _) (by kernel_rfl)
                    case hy => (refine .inl ⟨by kernel_rfl, fun W hC => ?_⟩; (try dsimp only at hC); go_simp; (try simp only [hm2,hm3,hm4,hm5]); rfl)
                    case hC => exact HC
                    case ha => (simp only [Act.put, List.setIfInBounds_toArray, List.set_cons_zero, List.set_cons_succ]; rfl)
                    apply WZ.take (i := 1) (some 119) rfl rfl (by kernel_rfl) (by kernel_rfl) (by kernel_rfl) (calm_panic _) (by kernel_rfl)
                    case hy => (refine .inl ⟨by kernel_rfl, fun W hC => ?_⟩; (try dsimp only at hC); go_simp; (try simp only [hm2,hm3,hm4,hm5]); rfl)
                    case hC => exact HC
                    case ha => (simp only [Act.put, List.setIfInBounds_toArray, List.set_cons_zero, List.set_cons_succ]; rfl)
                    apply WZ.take (i := 2) (some 120) rfl rfl (by kernel_rfl) (by kernel_rfl) (by kernel_rfl) (calm_panic _) (by kernel_rfl)
                    case hy => (refine .inl ⟨by kernel_rfl, fun W hC => ?_⟩; (try dsimp only at hC); go_simp; (try simp only [hm2,hm3,hm4,hm5]); rfl)
                    case hC => exact HC
                    case ha => (simp only [Act.put, List.setIfInBounds_toArray, List.set_cons_zero, List.set_cons_succ]; rfl)
                    apply WZ.take (i := 3) (some 121) rfl rfl (by kernel_rfl) (by kernel_rfl) (by kernel_rfl) (calm_panic _) (by kernel_rfl)
                    case hy => (refine .inl ⟨by kernel_rfl, fun W hC => ?_⟩; (try dsimp only at hC); go_simp; (try simp only [hm2,hm3,hm4,hm5]); rfl)
                    case hC => exact HC
                    case ha => (simp only [Act.put, List.setIfInBounds_toArray, List.set_cons_zero, List.set_cons_succ]; rfl)
                    apply WZ.take (i := 4) (some 122) rfl rfl (by kernel_rfl) (by kernel_rfl) (by kernel_rfl) (calm_panic _) (by kernel_rfl)
                    case hy => (refine .inl ⟨by kernel_rfl, fun W hC => ?_⟩; (try dsimp only at hC); go_simp; (try simp only [hm2,hm3,hm4,hm5]); rfl)
                    case hC => exact HC
                    case ha => (simp only [Act.put, List.setIfInBounds_toArray, List.set_cons_zero, List.set_cons_succ]; rfl)
                    apply WZ.take (i := 5) (some 123) rfl rfl (by kernel_rfl) (by kernel_rfl) (by kernel_rfl) (calm_panic _) (by kernel_rfl)
                    case hy => (refine .inl ⟨by kernel_rfl, fun W hC => ?_⟩; (try dsimp only at hC); go_simp; (try simp only [hm2,hm3,hm4,hm5]); rfl)
                    case hC => exact HC
                    case ha => (simp only [Act.put, List.setIfInBounds_toArray, List.set_cons_zero, List.set_cons_succ]; rfl)
                    apply WZ.take (i := 6) (some 124) rfl rfl (by kernel_rfl) (by kernel_rfl) (by kernel_rfl) (calm_panic _) (by kernel_rfl)
                    case hy => (refine .inl ⟨by kernel_rfl, fun W hC => ?_⟩; (try dsimp only at hC); go_simp; (try simp only [hm2,hm3,hm4,hm5]); rfl)
                    case hC => exact HC
                    case ha => (simp only [Act.put, List.setIfInBounds_toArray, List.set_cons_zero, List.set_cons_succ]; rfl)
                    apply WZ.take (i := 7) (some 125) rfl rfl (by kernel_rfl) (by kernel_rfl) (by kernel_rfl) (calm_panic _) (by kernel_rfl)
                    case hy => (refine .inl ⟨by kernel_rfl, fun W hC => ?_⟩; (try dsimp only at hC); go_simp; (try simp only [hm2,hm3,hm4,hm5]); rfl)
                    case hC => exact HC
                    case ha => (simp only [Act.put, List.setIfInBounds_toArray, List.set_cons_zero, List.set_cons_succ]; rfl)
                    apply WZ.take (i := 8) (some 126) rfl rfl (by kernel_rfl) (by kernel_rfl) (by kernel_rfl) (calm_panic _) (by kernel_rfl)
                    case hy => (refine .inl ⟨by kernel_rfl, fun W hC => ?_⟩; (try dsimp only at hC); go_simp; (try simp only [hm2,hm3,hm4,hm5]); rfl)
                    case hC => exact HC
                    case ha => (simp only [Act.put, List.setIfInBounds_toArray, List.set_cons_zero, List.set_cons_succ]; rfl)
                    apply WZ.take (i := 9) (some 127) rfl rfl (by kernel_rfl) (by kernel_rfl) (by kernel_rfl) (calm_panic _) (by kernel_rfl)
                    case hy => (refine .inl ⟨by kernel_rfl, fun W hC => ?_⟩; (try dsimp only at hC); go_simp; (try simp only [hm2,hm3,hm4,hm5]); rfl)
                    case hC => exact HC
                    case ha => (simp only [Act.put, List.setIfInBounds_toArray, List.set_cons_zero, List.set_cons_succ]; rfl)
                    apply WZ.take (i := 10) (some 128) rfl rfl (by kernel_rfl) (by kernel_rfl) (by kernel_rfl) (calm_panic _) (by kernel_rfl)
                    case hy => (refine .inl ⟨by kernel_rfl, fun W hC => ?_⟩; (try dsimp only at hC); go_simp; (try simp only [hm2,hm3,hm4,hm5]); rfl)
                    case hC => exact HC
                    case ha => (simp only [Act.put, List.setIfInBounds_toArray, List.set_cons_zero, List.set_cons_succ]; rfl)
                    apply WZ.take (i := 11) (some 129) rfl rfl (by kernel_rfl) (by kernel_rfl) (by kernel_rfl) (calm_panic _) (by kernel_rfl)
                    case hy => (refine .inl ⟨by kernel_rfl, fun W hC => ?_⟩; (try dsimp only at hC); go_simp; (try simp only [hm2,hm3,hm4,hm5]); rfl)
                    case hC => exact HC
                    case ha => (simp only [Act.put, List.setIfInBounds_toArray, List.set_cons_zero, List.set_cons_succ]; rfl)
                    apply WZ.take (i := 12) (some 130) rfl rfl (by kernel_rfl) (by kernel_rfl) (by kernel_rfl) (calm_panic _) (by kernel_rfl)
                    case hy => (refine .inl ⟨by kernel_rfl, fun W hC => ?_⟩; (try dsimp only at hC); go_simp; (try simp only [hm2,hm3,hm4,hm5]); rfl)
                    case hC => exact HC
                    case ha => (simp only [Act.put, List.setIfInBounds_toArray, List.set_cons_zero, List.set_cons_succ]; rfl)
                    apply WZ.take (i := 13) (some 131) rfl rfl (by kernel_rfl) (by kernel_rfl) (by kernel_rfl) (calm_panic _) (by kernel_rfl)
                    case hy => (refine .inl ⟨by kernel_rfl, fun W hC => ?_⟩; (try dsimp only at hC); go_simp; (try simp only [hm2,hm3,hm4,hm5]); rfl)
                    case hC => exact HC
                    case ha => (simp only [Act.put, List.setIfInBounds_toArray, List.set_cons_zero, List.set_cons_succ]; rfl)
                    apply WZ.take (i := 14) (some 132) rfl rfl (by kernel_rfl) (by kernel_rfl) (by kernel_rfl) (calm_panic _) (by kernel_rfl)
                    case hy => (refine .inl ⟨by kernel_rfl, fun W hC => ?_⟩; (try dsimp only at hC); go_simp; (try simp only [hm2,hm3,hm4,hm5]); rfl)
                    case hC => exact HC
                    case ha => (simp only [Act.put, List.setIfInBounds_toArray, List.set_cons_zero, List.set_cons_succ]; rfl)
                    apply WZ.take (i := 15) (some 133) rfl rfl (by kernel_rfl) (by kernel_rfl) (by kernel_rfl) (calm_panic _) (by kernel_rfl)
                    case hy => (refine .inl ⟨by kernel_rfl, fun W hC => ?_⟩; (try dsimp only at hC); go_simp; (try simp only [hm2,hm3,hm4,hm5]); rfl)
                    case hC => exact HC
                    case ha => (simp only [Act.put, List.setIfInBounds_toArray, List.set_cons_zero, List.set_cons_succ]; rfl)
                    apply WZ.take (i := 16) (some 134) rfl rfl (by kernel_rfl) (by kernel_rfl) (by kernel_rfl) (calm_panic _) (by kernel_rfl)
                    case hy => (refine .inl ⟨by kernel_rfl, fun W hC => ?_⟩; (try dsimp only at hC); go_simp; (try simp only [hm2,hm3,hm4,hm5]); rfl)
                    case hC => exact HC
                    case ha => (simp only [Act.put, List.setIfInBounds_toArray, List.set_cons_zero, List.set_cons_succ]; rfl)
                    apply WZ.take (i := 17) (some 135) rfl rfl (by kernel_rfl) (by kernel_rfl) (by kernel_rfl) (calm_panic _) (by kernel_rfl)
                    case hy => (refine .inl ⟨by kernel_rfl, fun W hC => ?_⟩; (try dsimp only at hC); go_simp; (try simp only [hm2,hm3,hm4,hm5]); rfl)
                    case hC => exact HC
                    case ha => (simp only [Act.put, List.setIfInBounds_toArray, List.set_cons_zero, List.set_cons_succ]; rfl)
                    refine WZ.done (by kernel_rfl) ?_ _
                    simp only [Calm, Exit.then]
                    have HI3 := Lib.hid (HI.out.drewN (n + 1))
                    have B1 := Lib.hid (show (vals q).length = lq * 6 by rw [length_vals, HLQ.out]; omega)
                    have B2 := Lib.hid (show na + lq ≤ maxLen by unfold maxLen; omega)
                    have B3 := Lib.hid (show (na + lq) * 72 ≤ 140737488355328 by omega)
                    have B4 := Lib.hid HI3.out.1
                    have B5 := Lib.hid (Rd.drewN HRQ.out (n + 1))
                    have B6 := Lib.hid HI3.out.2.2.2.2.2.1
                    go_wp2_with (at_builtin; go_loud (refine wpList_app _ rfl _ _ _ rfl w2.heap.size 50 j0 zeroCell 6 72 Try.underlying22 hj0 jz0 jz1 jz2 rfl (by decide) _ _ _ _ rfl B4.out _ _ lq _ (vals q) rfl B5.out B1.out (vals_one _) B2.out B3.out B6.out ?_); intro A4 c4 w4 ho4 hg4 hat4; have HF := Lib.hid (HI3.out.more hkp HQ.out HLQ.out ho4 hg4); clear ho4 hg4 hat4 B1 B2 B3 B4 B5 B6)
                    exact ⟨⟨k + 1, A4, _, c4, by omega, rfl, by go_num, HF⟩, by simp [intOf]; omega⟩
            · obtain ⟨j, hj⟩ : ∃ j, k = j + 1 := ⟨k - 1, by omega⟩
              obtain ⟨_, _, y1, -, -⟩ := hat j (by omega)
              have hle := hpair j (by omega)
              obtain ⟨tj, htj⟩ : ∃ tj, P[j].1 = tj := ⟨_, rfl⟩
              rw [htj] at y1 hle
              have hnpos : 0 < (flatTo P k).length := by
                rw [hj, flatTo_succ (by omega), List.length_append]
                have := List.length_pos_iff.2 (HG.out.each _ (List.getElem_mem (show j < P.length by omega))).2.1
                omega
              obtain ⟨e, he⟩ : ∃ e, na = e + 1 := ⟨na - 1, by have := HNA.out; omega⟩
              have he1 : e < (flatTo P k).length := by have := HNA.out; omega
              obtain ⟨ga, oa, rfl, hga, hca⟩ := (Own.rd HI.out.1 (by decide)).at_ (vals_ne he1)
              obtain ⟨za, -⟩ := Rd.cell_at (B := 0) hca e he1
              have hne := toList_ne (hapart _ (List.getElem_mem he1) _ (List.getElem_mem hq0))
              obtain ⟨ra, hra⟩ : ∃ ra, (flatTo P k)[e].row = ra := ⟨_, rfl⟩
              rw [hra] at za hne
              have hd : decide (0 < k) = true := by simp; omega
              have hd' : IntKind.i64.wrap ((k : Int) - 1) = (j : Int) := by rw [IntWalk.i64_in _ (by omega)]; omega
              have hd2 : IntKind.i64.wrap ((na : Int) - 1) = (e : Int) := by rw [IntWalk.i64_in _ (by omega)]; omega
              have hd3 : decide ((tb : Int) < (tj : Int)) = false := decide_eq_false (by omega)
              have hd5 : ¬ tb < tj := by omega
              have hd4 : decide (tb < tj) = false := decide_eq_false hd5
              have k1 : (0 : Int) ≤ (j : Int) := by omega
              have k2 : (j : Int) < (n1 : Int) := by omega
              have k3 : (0 : Int) ≤ (e : Int) := by omega
              have k4 : (e : Int) < (na : Int) := by omega
              have HE1 := Lib.hid he1
              have HE := Lib.hid he
              have HJ := Lib.hid hj
              clear hat hapart hpair htj hra hca hk0 hnpos hle he1 he hj
              have HC : wr.cell? ⟨bq, oq, none⟩ = some (.string q[0].row) ∧ wr.cell? ⟨b, o + k * 2, none⟩ = some (.int .i64 tb) ∧ wr.cell? ⟨b, o + j * 2, none⟩ = some (.int .i64 tj) ∧ wr.cell? ⟨ga, oa + e * 6, none⟩ = some (.string ra) := ⟨z0, x1, y1, za⟩
              go_wp2
              refine region_wz (fun W' => W'.cell? ⟨bq, oq, none⟩ = some (.string q[0].row) ∧ W'.cell? ⟨b, o + k * 2, none⟩ = some (.int .i64 tb) ∧ W'.cell? ⟨b, o + j * 2, none⟩ = some (.int .i64 tj) ∧ W'.cell? ⟨ga, oa + e * 6, none⟩ = some (.string ra)) none (by kernel_rfl) ?_
              apply WZ.take (i := 0) (some 64) rfl rfl (by kernel_rfl) (by kernel_rfl) (by kernel_rfl) (calm_panic _) (by kernel_rfl)
              case hy => (refine .inl ⟨by kernel_rfl, fun W hC => ?_⟩; (try dsimp only at hC); go_simp; (try simp only [hd,hd',hd2,hd3,hd4,hd5,hne,i4,i5,i6,i7]); rfl)
              case hC => exact HC
              case ha => (simp only [Act.put, List.setIfInBounds_toArray, List.set_cons_zero, List.set_cons_succ]; rfl)
              apply WZ.take (i := 1) (some 65) rfl rfl (by kernel_rfl) (by kernel_rfl) (by kernel_rfl) (calm_panic _) (by kernel_rfl)
              case hy => (refine .inl ⟨by kernel_rfl, fun W hC => ?_⟩; (try dsimp only at hC); go_simp; (try simp only [hd,hd',hd2,hd3,hd4,hd5,hne,i4,i5,i6,i7]); rfl)
              case hC => exact HC
              case ha => (simp only [Act.put, List.setIfInBounds_toArray, List.set_cons_zero, List.set_cons_succ]; rfl)
              apply WZ.take (i := 2) (some 66) rfl rfl (by kernel_rfl) (by kernel_rfl) (by kernel_rfl) (calm_panic _) (by kernel_rfl)
              case hy => (refine .inl ⟨by kernel_rfl, fun W hC => ?_⟩; (try dsimp only at hC); go_simp; (try simp only [hd,hd',hd2,hd3,hd4,hd5,hne,i4,i5,i6,i7]); rfl)
              case hC => exact HC
              case ha => (simp only [Act.put, List.setIfInBounds_toArray, List.set_cons_zero, List.set_cons_succ]; rfl)
              apply WZ.take (i := 3) (some 67) rfl rfl (by kernel_rfl) (by kernel_rfl) (by kernel_rfl) (calm_panic _) (by kernel_rfl)
              case hy => (refine .inl ⟨by kernel_rfl, fun W hC => ?_⟩; (try dsimp only at hC); go_simp; (try simp only [hd,hd',hd2,hd3,hd4,hd5,hne,i4,i5,i6,i7]); rfl)
              case hC => exact HC
              case ha => (simp only [Act.put, List.setIfInBounds_toArray, List.set_cons_zero, List.set_cons_succ]; rfl)
              apply WZ.take (i := 4) (some 68) rfl rfl (by kernel_rfl) (by kernel_rfl) (by kernel_rfl) (calm_panic _) (by kernel_rfl)
              case hy => (refine .inl ⟨by kernel_rfl, fun W hC => ?_⟩; (try dsimp only at hC); go_simp; (try simp only [hd,hd',hd2,hd3,hd4,hd5,hne,i4,i5,i6,i7]); rfl)
              case hC => exact HC
              case ha => (simp only [Act.put, List.setIfInBounds_toArray, List.set_cons_zero, List.set_cons_succ]; rfl)
              apply WZ.take (i := 5) (some 69) rfl rfl (by kernel_rfl) (by kernel_rfl) (by kernel_rfl) (calm_panic _) (by kernel_rfl)
              case hy => (refine .inl ⟨by kernel_rfl, fun W hC => ?_⟩; (try dsimp only at hC); go_simp; (try simp only [hd,hd',hd2,hd3,hd4,hd5,hne,i4,i5,i6,i7]); rfl)
              case hC => exact HC
              case ha => (simp only [Act.put, List.setIfInBounds_toArray, List.set_cons_zero, List.set_cons_succ]; rfl)
              apply WZ.take (i := 6) (some 70) rfl rfl (by kernel_rfl) (by kernel_rfl) (by kernel_rfl) (calm_panic _) (by kernel_rfl)
              case hy => (refine .inl ⟨by kernel_rfl, fun W hC => ?_⟩; (try dsimp only at hC); go_simp; (try simp only [hd,hd',hd2,hd3,hd4,hd5,hne,i4,i5,i6,i7]); rfl)
              case hC => exact HC
              case ha => (simp only [Act.put, List.setIfInBounds_toArray, List.set_cons_zero, List.set_cons_succ]; rfl)
              apply WZ.take (i := 7) (some 71) rfl rfl (by kernel_rfl) (by kernel_rfl) (by kernel_rfl) (calm_panic _) (by kernel_rfl)
              case hy => (refine .inl ⟨by kernel_rfl, fun W hC => ?_⟩; (try dsimp only at hC); go_simp; (try simp only [hd,hd',hd2,hd3,hd4,hd5,hne,i4,i5,i6,i7]); rfl)
              case hC => exact HC
              case ha => (simp only [Act.put, List.setIfInBounds_toArray, List.set_cons_zero, List.set_cons_succ]; rfl)
              apply WZ.take (i := 8) (some 72) rfl rfl (by kernel_rfl) (by kernel_rfl) (by kernel_rfl) (calm_panic _) (by kernel_rfl)
              case hy => (refine .inl ⟨by kernel_rfl, fun W hC => ?_⟩; (try dsimp only at hC); go_simp; (try simp only [hd,hd',hd2,hd3,hd4,hd5,hne,i4,i5,i6,i7]); rfl)
              case hC => exact HC
              case ha => (simp only [Act.put, List.setIfInBounds_toArray, List.set_cons_zero, List.set_cons_succ]; rfl)
              apply WZ.take (i := 9) (some 73) rfl rfl (by kernel_rfl) (by kernel_rfl) (by kernel_rfl) (calm_panic _) (by kernel_rfl)
              case hy => (refine .inl ⟨by kernel_rfl, fun W hC => ?_⟩; (try dsimp only at hC); go_simp; (try simp only [hd,hd',hd2,hd3,hd4,hd5,hne,i4,i5,i6,i7]); rfl)
              case hC => exact HC
              case ha => (simp only [Act.put, List.setIfInBounds_toArray, List.set_cons_zero, List.set_cons_succ]; rfl)
              apply WZ.take (i := 10) (some 74) rfl rfl (by kernel_rfl) (by kernel_rfl) (by kernel_rfl) (calm_panic _) (by kernel_rfl)
              case hy => (refine .inl ⟨by kernel_rfl, fun W hC => ?_⟩; (try dsimp only at hC); go_simp; (try simp only [hd,hd',hd2,hd3,hd4,hd5,hne,i4,i5,i6,i7]); rfl)
              case hC => exact HC
              case ha => (simp only [Act.put, List.setIfInBounds_toArray, List.set_cons_zero, List.set_cons_succ]; rfl)
              apply WZ.take (i := 11) (some 75) rfl rfl (by kernel_rfl) (by kernel_rfl) (by kernel_rfl) (calm_panic _) (by kernel_rfl)
              case hy => (refine .inl ⟨by kernel_rfl, fun W hC => ?_⟩; (try dsimp only at hC); go_simp; (try simp only [hd,hd',hd2,hd3,hd4,hd5,hne,i4,i5,i6,i7]); rfl)
              case hC => exact HC
              case ha => (simp only [Act.put, List.setIfInBounds_toArray, List.set_cons_zero, List.set_cons_succ]; rfl)
              apply WZ.take (i := 12) (some 76) rfl rfl (by kernel_rfl) (by kernel_rfl) (by kernel_rfl) (calm_panic _) (by kernel_rfl)
              case hy => (refine .inl ⟨by kernel_rfl, fun W hC => ?_⟩; (try dsimp only at hC); go_simp; (try simp only [hd,hd',hd2,hd3,hd4,hd5,hne,i4,i5,i6,i7]); rfl)
              case hC => exact HC
              case ha => (simp only [Act.put, List.setIfInBounds_toArray, List.set_cons_zero, List.set_cons_succ]; rfl)
              apply WZ.take (i := 13) (some 77) rfl rfl (by kernel_rfl) (by kernel_rfl) (by kernel_rfl) (calm_panic _) (by kernel_rfl)
              case hy => (refine .inl ⟨by kernel_rfl, fun W hC => ?_⟩; (try dsimp only at hC); go_simp; (try simp only [hd,hd',hd2,hd3,hd4,hd5,hne,i4,i5,i6,i7]); rfl)
              case hC => exact HC
              case ha => (simp only [Act.put, List.setIfInBounds_toArray, List.set_cons_zero, List.set_cons_succ]; rfl)
              apply WZ.take (i := 14) (some 78) rfl rfl (by kernel_rfl) (by kernel_rfl) (by kernel_rfl) (calm_panic _) (by kernel_rfl)
              case hy => (refine .inl ⟨by kernel_rfl, fun W hC => ?_⟩; (try dsimp only at hC); go_simp; (try simp only [hd,hd',hd2,hd3,hd4,hd5,hne,i4,i5,i6,i7]); rfl)
              case hC => exact HC
              case ha => (simp only [Act.put, List.setIfInBounds_toArray, List.set_cons_zero, List.set_cons_succ]; rfl)
              apply WZ.take (i := 15) (some 79) rfl rfl (by kernel_rfl) (by kernel_rfl) (by kernel_rfl) (calm_panic _) (by kernel_rfl)
              case hy => (refine .inl ⟨by kernel_rfl, fun W hC => ?_⟩; (try dsimp only at hC); go_simp; (try simp only [hd,hd',hd2,hd3,hd4,hd5,hne,i4,i5,i6,i7]); rfl)
              case hC => exact HC
              case ha => (simp only [Act.put, List.setIfInBounds_toArray, List.set_cons_zero, List.set_cons_succ]; rfl)
              apply WZ.take (i := 16) (some 80) rfl rfl (by kernel_rfl) (by kernel_rfl) (by kernel_rfl) (calm_panic _) (by kernel_rfl)
              case hy => (refine .inl ⟨by kernel_rfl, fun W hC => ?_⟩; (try dsimp only at hC); go_simp; (try simp only [hd,hd',hd2,hd3,hd4,hd5,hne,i4,i5,i6,i7]); rfl)
              case hC => exact HC
              case ha => (simp only [Act.put, List.setIfInBounds_toArray, List.set_cons_zero, List.set_cons_succ]; rfl)
              apply WZ.take (i := 17) (some 81) rfl rfl (by kernel_rfl) (by kernel_rfl) (by kernel_rfl) (calm_panic _) (by kernel_rfl)
              case hy => (refine .inl ⟨by kernel_rfl, fun W hC => ?_⟩; (try dsimp only at hC); go_simp; (try simp only [hd,hd',hd2,hd3,hd4,hd5,hne,i4,i5,i6,i7]); rfl)
              case hC => exact HC
              case ha => (simp only [Act.put, List.setIfInBounds_toArray, List.set_cons_zero, List.set_cons_succ]; rfl)
              apply WZ.take (i := 18) (some 82) rfl rfl (by kernel_rfl) (by kernel_rfl) (by kernel_rfl) (calm_panic _) (by kernel_rfl)
              case hy => (refine .inl ⟨by kernel_rfl, fun W hC => ?_⟩; (try dsimp only at hC); go_simp; (try simp only [hd,hd',hd2,hd3,hd4,hd5,hne,i4,i5,i6,i7]); rfl)
              case hC => exact HC
              case ha => (simp only [Act.put, List.setIfInBounds_toArray, List.set_cons_zero, List.set_cons_succ]; rfl)
              apply WZ.take (i := 19) (some 83) rfl rfl (by kernel_rfl) (by kernel_rfl) (by kernel_rfl) (calm_panic _) (by kernel_rfl)
              case hy => (refine .inl ⟨by kernel_rfl, fun W hC => ?_⟩; (try dsimp only at hC); go_simp; (try simp only [hd,hd',hd2,hd3,hd4,hd5,hne,i4,i5,i6,i7]); rfl)
              case hC => exact HC
              case ha => (simp only [Act.put, List.setIfInBounds_toArray, List.set_cons_zero, List.set_cons_succ]; rfl)
              apply WZ.take (i := 20) (some 84) rfl rfl (by kernel_rfl) (by kernel_rfl) (by kernel_rfl) (calm_panic _) (by kernel_rfl)
              case hy => (refine .inl ⟨by kernel_rfl, fun W hC => ?_⟩; (try dsimp only at hC); go_simp; (try simp only [hd,hd',hd2,hd3,hd4,hd5,hne,i4,i5,i6,i7]); rfl)
              case hC => exact HC
              case ha => (simp only [Act.put, List.setIfInBounds_toArray, List.set_cons_zero, List.set_cons_succ]; rfl)
              apply WZ.take (i := 21) (some 85) rfl rfl (by kernel_rfl) (by kernel_rfl) (by kernel_rfl) (calm_panic _) (by kernel_rfl)
              case hy => (refine .inl ⟨by kernel_rfl, fun W hC => ?_⟩; (try dsimp only at hC); go_simp; (try simp only [hd,hd',hd2,hd3,hd4,hd5,hne,i4,i5,i6,i7]); rfl)
              case hC => exact HC
              case ha => (simp only [Act.put, List.setIfInBounds_toArray, List.set_cons_zero, List.set_cons_succ]; rfl)
              apply WZ.take (i := 22) (some 86) rfl rfl (by kernel_rfl) (by kernel_rfl) (by kernel_rfl) (calm_panic _) (by kernel_rfl)
              case hy => (refine .inl ⟨by kernel_rfl, fun W hC => ?_⟩; (try dsimp only at hC); go_simp; (try simp only [hd,hd',hd2,hd3,hd4,hd5,hne,i4,i5,i6,i7]); rfl)
              case hC => exact HC
              case ha => (simp only [Act.put, List.setIfInBounds_toArray, List.set_cons_zero, List.set_cons_succ]; rfl)
              apply WZ.take (i := 23) (some 87) rfl rfl (by kernel_rfl) (by kernel_rfl) (by kernel_rfl) (calm_panic _) (by kernel_rfl)
              case hy => (refine .inl ⟨by kernel_rfl, fun W hC => ?_⟩; (try dsimp only at hC); go_simp; (try simp only [hd,hd',hd2,hd3,hd4,hd5,hne,i4,i5,i6,i7]); rfl)
              case hC => exact HC
              case ha => (simp only [Act.put, List.setIfInBounds_toArray, List.set_cons_zero, List.set_cons_succ]; rfl)
              apply WZ.take (i := 24) (some 88) rfl rfl (by kernel_rfl) (by kernel_rfl) (by kernel_rfl) (calm_panic _) (by kernel_rfl)
              case hy => (refine .inl ⟨by kernel_rfl, fun W hC => ?_⟩; (try dsimp only at hC); go_simp; (try simp only [hd,hd',hd2,hd3,hd4,hd5,hne,i4,i5,i6,i7]); rfl)
              case hC => exact HC
              case ha => (simp only [Act.put, List.setIfInBounds_toArray, List.set_cons_zero, List.set_cons_succ]; rfl)
              apply WZ.take (i := 25) (some 89) rfl rfl (by kernel_rfl) (by kernel_rfl) (by kernel_rfl) (calm_panic _) (by kernel_rfl)
              case hy => (refine .inl ⟨by kernel_rfl, fun W hC => ?_⟩; (try dsimp only at hC); go_simp; (try simp only [hd,hd',hd2,hd3,hd4,hd5,hne,i4,i5,i6,i7]); rfl)
              case hC => exact HC
              case ha => (simp only [Act.put, List.setIfInBounds_toArray, List.set_cons_zero, List.set_cons_succ]; rfl)
              apply WZ.take (i := 26) (some 90) rfl rfl (by kernel_rfl) (by kernel_rfl) (by kernel_rfl) (calm_panic _) (by kernel_rfl)
              case hy => (refine .inl ⟨by kernel_rfl, fun W hC => ?_⟩; (try dsimp only at hC); go_simp; (try simp only [hd,hd',hd2,hd3,hd4,hd5,hne,i4,i5,i6,i7]); rfl)
              case hC => exact HC
              case ha => (simp only [Act.put, List.setIfInBounds_toArray, List.set_cons_zero, List.set_cons_succ]; rfl)
              apply WZ.take (i := 27) (some 91) rfl rfl (by kernel_rfl) (by kernel_rfl) (by kernel_rfl) (calm_panic _) (by kernel_rfl)
              case hy => (refine .inl ⟨by kernel_rfl, fun W hC => ?_⟩; (try dsimp only at hC); go_simp; (try simp only [hd,hd',hd2,hd3,hd4,hd5,hne,i4,i5,i6,i7]); rfl)
              case hC => exact HC
              case ha => (simp only [Act.put, List.setIfInBounds_toArray, List.set_cons_zero, List.set_cons_succ]; rfl)
              apply WZ.take (i := 28) (some 92) rfl rfl (by kernel_rfl) (by kernel_rfl) (by kernel_rfl) (calm_panic _) (by kernel_rfl)
              case hy => (refine .inl ⟨by kernel_rfl, fun W hC => ?_⟩; (try dsimp only at hC); go_simp; (try simp only [hd,hd',hd2,hd3,hd4,hd5,hne,i4,i5,i6,i7]); rfl)
              case hC => exact HC
              case ha => (simp only [Act.put, List.setIfInBounds_toArray, List.set_cons_zero, List.set_cons_succ]; rfl)
              apply WZ.take (i := 29) (some 93) rfl rfl (by kernel_rfl) (by kernel_rfl) (by kernel_rfl) (calm_panic _) (by kernel_rfl)
              case hy => (refine .inl ⟨by kernel_rfl, fun W hC => ?_⟩; (try dsimp only at hC); go_simp; (try simp only [hd,hd',hd2,hd3,hd4,hd5,hne,i4,i5,i6,i7]); rfl)
              case hC => exact HC
              case ha => (simp only [Act.put, List.setIfInBounds_toArray, List.set_cons_zero, List.set_cons_succ]; rfl)
              apply WZ.take (i := 30) (some 94) rfl rfl (by kernel_rfl) (by kernel_rfl) (by kernel_rfl) (calm_panic _) (by kernel_rfl)
              case hy => (refine .inl ⟨by kernel_rfl, fun W hC => ?_⟩; (try dsimp only at hC); go_simp; (try simp only [hd,hd',hd2,hd3,hd4,hd5,hne,i4,i5,i6,i7]); rfl)
              case hC => exact HC
              case ha => (simp only [Act.put, List.setIfInBounds_toArray, List.set_cons_zero, List.set_cons_succ]; rfl)
              apply WZ.take (i := 31) (some 95) rfl rfl (by kernel_rfl) (by kernel_rfl) (by kernel_rfl) (calm_panic _) (by kernel_rfl)
              case hy => (refine .inl ⟨by kernel_rfl, fun W hC => ?_⟩; (try dsimp only at hC); go_simp; (try simp only [hd,hd',hd2,hd3,hd4,hd5,hne,i4,i5,i6,i7]); rfl)
              case hC => exact HC
              case ha => (simp only [Act.put, List.setIfInBounds_toArray, List.set_cons_zero, List.set_cons_succ]; rfl)
              apply WZ.take (i := 32) (some 96) rfl rfl (by kernel_rfl) (by kernel_rfl) (by kernel_rfl) (calm_panic _) (by kernel_rfl)
              case hy => (refine .inl ⟨by kernel_rfl, fun W hC => ?_⟩; (try dsimp only at hC); go_simp; (try simp only [hd,hd',hd2,hd3,hd4,hd5,hne,i4,i5,i6,i7]); rfl)
              case hC => exact HC
              case ha => (simp only [Act.put, List.setIfInBounds_toArray, List.set_cons_zero, List.set_cons_succ]; rfl)
              apply WZ.take (i := 33) (some 97) rfl rfl (by kernel_rfl) (by kernel_rfl) (by kernel_rfl) (calm_panic _) (by kernel_rfl)
              case hy => (refine .inl ⟨by kernel_rfl, fun W hC => ?_⟩; (try dsimp only at hC); go_simp; (try simp only [hd,hd',hd2,hd3,hd4,hd5,hne,i4,i5,i6,i7]); rfl)
              case hC => exact HC
              case ha => (simp only [Act.put, List.setIfInBounds_toArray, List.set_cons_zero, List.set_cons_succ]; rfl)
              apply WZ.take (i := 34) (some 98) rfl rfl (by kernel_rfl) (by kernel_rfl) (by kernel_rfl) (calm_panic _) (by kernel_rfl)
              case hy => (refine .inl ⟨by kernel_rfl, fun W hC => ?_⟩; (try dsimp only at hC); go_simp; (try simp only [hd,hd',hd2,hd3,hd4,hd5,hne,i4,i5,i6,i7]); rfl)
              case hC => exact HC
              case ha => (simp only [Act.put, List.setIfInBounds_toArray, List.set_cons_zero, List.set_cons_succ]; rfl)
              refine WZ.done (by kernel_rfl) ?_ _
              simp only [Calm, Exit.then]
              go_wp2
              go_loopw [13] (fun x wr' => ∃ (x' n : Nat), x' ≤ lq ∧ x = .int .i64 x' ∧ wr' = wr.drewN n) (fun x _ => lq - (intOf x).toNat)
              case atStart => exact ⟨0, _, Nat.zero_le _, rfl, rfl⟩
              case round =>
                obtain ⟨x, n, hx, rfl, rfl⟩ := hrel
                by_cases hxl : x < lq
                · have hxq : x < q.length := by rw [HLQ.out]; exact hxl
                  obtain ⟨zx, -⟩ := Rd.cell_at (B := 0) HCQ.out x hxq
                  have hpl := HQ4.out _ (List.getElem_mem hxq)
                  obtain ⟨r, hr⟩ : ∃ r, q[x].row = r := ⟨_, rfl⟩
                  rw [hr] at zx hpl
                  have hplace := fun (W : World) h => cutPlace_any S d ss r W w2.heap.size h HL'.out
                  rw [hpl] at hplace
                  have HC : (wr.drewN n).cell? ⟨bq, oq + x * 6, none⟩ = some (.string r) ∧ (wr.drewN n).cell? ⟨b, o + k * 2, none⟩ = some (.int .i64 tb) := ⟨zx, x1⟩
                  have k5 : (0 : Int) ≤ (x : Int) := by omega
                  have k6 : (x : Int) < (lq : Int) := by omega
                  clear hr hpl zx
                  go_wp2
                  refine region_wz (fun W' => W'.cell? ⟨bq, oq + x * 6, none⟩ = some (.string r) ∧ W'.cell? ⟨b, o + k * 2, none⟩ = some (.int .i64 tb)) none (by kernel_rfl) ?_
                  apply WZ.take (i := 0) (some 105) rfl rfl (by kernel_rfl) (by kernel_rfl) (by kernel_rfl) (calm_panic _) (by kernel_rfl)
                  case hy => (refine .inl ⟨by kernel_rfl, fun W hC => ?_⟩; (try dsimp only at hC); go_simp; rfl)
                  case hC => exact HC
                  case ha => (simp only [Act.put, List.setIfInBounds_toArray, List.set_cons_zero, List.set_cons_succ]; rfl)
                  apply WZ.take (i := 1) (some 106) rfl rfl (by kernel_rfl) (by kernel_rfl) (by kernel_rfl) (calm_panic _) (by kernel_rfl)
                  case hy => (refine .inl ⟨by kernel_rfl, fun W hC => ?_⟩; (try dsimp only at hC); go_simp; rfl)
                  case hC => exact HC
                  case ha => (simp only [Act.put, List.setIfInBounds_toArray, List.set_cons_zero, List.set_cons_succ]; rfl)
                  apply WZ.take (i := 2) (some 107) rfl rfl (by kernel_rfl) (by kernel_rfl) (by kernel_rfl) (calm_panic _) (by kernel_rfl)
                  case hy => (refine .inl ⟨by kernel_rfl, fun W hC => ?_⟩; (try dsimp only at hC); go_simp; rfl)
                  case hC => exact HC
                  case ha => (simp only [Act.put, List.setIfInBounds_toArray, List.set_cons_zero, List.set_cons_succ]; rfl)
                  apply WZ.take (i := 3) (some 108) rfl rfl (by kernel_rfl) (by kernel_rfl) (by kernel_rfl) (calm_panic _) (by kernel_rfl)
                  case hy => (refine .inl ⟨by kernel_rfl, fun W hC => ?_⟩; (try dsimp only at hC); go_simp; rfl)
                  case hC => exact HC
                  case ha => (simp only [Act.put, List.setIfInBounds_toArray, List.set_cons_zero, List.set_cons_succ]; rfl)
                  apply WZ.take (i := 4) (some 109) rfl rfl (by kernel_rfl) (by kernel_rfl) (by kernel_rfl) (calm_panic _) (by kernel_rfl)
                  case hy => (refine .inl ⟨by kernel_rfl, fun W hC => ?_⟩; (try dsimp only at hC); go_simp; rfl)
                  case hC => exact HC
                  case ha => (simp only [Act.put, List.setIfInBounds_toArray, List.set_cons_zero, List.set_cons_succ]; rfl)
                  apply WZ.take (i := 5) (some 110) rfl rfl (by kernel_rfl) (by kernel_rfl) (by kernel_rfl) (calm_panic _) (by kernel_rfl)
                  case hy => (refine .inl ⟨by kernel_rfl, fun W hC => ?_⟩; (try dsimp only at hC); go_simp; rfl)
                  case hC => exact HC
                  case ha => (simp only [Act.put, List.setIfInBounds_toArray, List.set_cons_zero, List.set_cons_succ]; rfl)
                  apply WZ.take (i := 7) (some 112) rfl rfl (by kernel_rfl) (by kernel_rfl) (by kernel_rfl) (calm_panic _) (by kernel_rfl)
                  case hy => (refine .inl ⟨by kernel_rfl, fun W hC => ?_⟩; (try dsimp only at hC); go_simp; rfl)
                  case hC => exact HC
                  case ha => (simp only [Act.put, List.setIfInBounds_toArray, List.set_cons_zero, List.set_cons_succ]; rfl)
                  apply WZ.take (i := 8) (some 113) rfl rfl (by kernel_rfl) (by kernel_rfl) (by kernel_rfl) (calm_panic _) (by kernel_rfl)
                  case hy => (refine .inl ⟨by kernel_rfl, fun W hC => ?_⟩; (try dsimp only at hC); go_simp; rfl)
                  case hC => exact HC
                  case ha => (simp only [Act.put, List.setIfInBounds_toArray, List.set_cons_zero, List.set_cons_succ]; rfl)
                  apply WZ.take (i := 9) (some 114) rfl rfl (by kernel_rfl) (by kernel_rfl) (by kernel_rfl) (calm_panic _) (by kernel_rfl)
                  case hy => (refine .inl ⟨by kernel_rfl, fun W hC => ?_⟩; (try dsimp only at hC); go_simp; rfl)
                  case hC => exact HC
                  case ha => (simp only [Act.put, List.setIfInBounds_toArray, List.set_cons_zero, List.set_cons_succ]; rfl)
                  apply WZ.take (i := 10) (some 115) rfl rfl (by kernel_rfl) (by kernel_rfl) (by kernel_rfl) (calm_panic _) (by kernel_rfl)
                  case hy => (refine .inl ⟨by kernel_rfl, fun W hC => ?_⟩; (try dsimp only at hC); go_simp; rfl)
                  case hC => exact HC
                  case ha => (simp only [Act.put, List.setIfInBounds_toArray, List.set_cons_zero, List.set_cons_succ]; rfl)
                  apply WZ.take (i := 11) (some 116) rfl rfl (by kernel_rfl) (by kernel_rfl) (by kernel_rfl) (calm_panic _) (by kernel_rfl)
                  case hy => (refine .inl ⟨by kernel_rfl, fun W hC => ?_⟩; (try dsimp only at hC); go_simp; rfl)
                  case hC => exact HC
                  case ha => (simp only [Act.put, List.setIfInBounds_toArray, List.set_cons_zero, List.set_cons_succ]; rfl)
                  -- 6
                  refine WZ.one (i := 6) rfl (by kernel_rfl) ?_
                  conv => arg 4; arg 1; whnf
                  go_wp2_with (go_at_call 16; refine (hplace _ (Rd.drewN HI.out.2.2.2.2.1 _)).mono ?_; rintro e w5 ⟨rfl, rfl⟩)
                  refine ⟨HC, ?_⟩
                  apply WZ.take (i := 12) (some 117) rfl rfl (by kernel_rfl) (by kernel_rfl) (by kernel_rfl) (calm_panic _) (by kernel_rfl)
                  case hy => (refine .inl ⟨by kernel_rfl, fun W hC => ?_⟩; (try dsimp only at hC); go_simp; rfl)
                  case hC => exact HC
                  case ha => (simp only [Act.put, List.setIfInBounds_toArray, List.set_cons_zero, List.set_cons_succ]; rfl)
                  refine WZ.done (by kernel_rfl) ?_ _
                  simp only [Calm, Exit.then]
                  go_wp2
                  exact ⟨⟨x + 1, _, by omega, by go_num, rfl⟩, by simp [intOf]; omega⟩
                · have k6 : decide ((x : Int) < (lq : Int)) = false := decide_eq_false (by omega)
                  by_cases hlm : lq ≤ m
                  · have hm2 : decide ((m : Int) < (lq : Int)) = false := decide_eq_false (by omega)
                    have hm4 : ¬ m < lq := by omega
                    have hm3 : decide (m < lq) = false := decide_eq_false hm4
                    have HC : True := trivial
                    go_wp2
                    refine region_wz (fun W' => True) none (by kernel_rfl) ?_
                    apply WZ.take (i := 0) (some 118) rfl rfl (by kernel_rfl) (by kernel_rfl) (by kernel_rfl) (calm_panic _) (by kernel_rfl)
                    case hy => (refine .inl ⟨by kernel_rfl, fun W hC => ?_⟩; (try dsimp only at hC); go_simp; (try simp only [hm2,hm3,hm4]); rfl)
                    case hC => exact HC
                    case ha => (simp only [Act.put, List.setIfInBounds_toArray, List.set_cons_zero, List.set_cons_succ]; rfl)
                    apply WZ.take (i := 1) (some 119) rfl rfl (by kernel_rfl) (by kernel_rfl) (by kernel_rfl) (calm_panic _) (by kernel_rfl)
                    case hy => (refine .inl ⟨by kernel_rfl, fun W hC => ?_⟩; (try dsimp only at hC); go_simp; (try simp only [hm2,hm3,hm4]); rfl)
                    case hC => exact HC
                    case ha => (simp only [Act.put, List.setIfInBounds_toArray, List.set_cons_zero, List.set_cons_succ]; rfl)
                    apply WZ.take (i := 2) (some 120) rfl rfl (by kernel_rfl) (by kernel_rfl) (by kernel_rfl) (calm_panic _) (by kernel_rfl)
                    case hy => (refine .inl ⟨by kernel_rfl, fun W hC => ?_⟩; (try dsimp only at hC); go_simp; (try simp only [hm2,hm3,hm4]); rfl)
                    case hC => exact HC
                    case ha => (simp only [Act.put, List.setIfInBounds_toArray, List.set_cons_zero, List.set_cons_succ]; rfl)
                    apply WZ.take (i := 3) (some 121) rfl rfl (by kernel_rfl) (by kernel_rfl) (by kernel_rfl) (calm_panic _) (by kernel_rfl)
                    case hy => (refine .inl ⟨by kernel_rfl, fun W hC => ?_⟩; (try dsimp only at hC); go_simp; (try simp only [hm2,hm3,hm4]); rfl)
                    case hC => exact HC
                    case ha => (simp only [Act.put, List.setIfInBounds_toArray, List.set_cons_zero, List.set_cons_succ]; rfl)
                    apply WZ.take (i := 4) (some 122) rfl rfl (by kernel_rfl) (by kernel_rfl) (by kernel_rfl) (calm_panic _) (by kernel_rfl)
                    case hy => (refine .inl ⟨by kernel_rfl, fun W hC => ?_⟩; (try dsimp only at hC); go_simp; (try simp only [hm2,hm3,hm4]); rfl)
                    case hC => exact HC
                    case ha => (simp only [Act.put, List.setIfInBounds_toArray, List.set_cons_zero, List.set_cons_succ]; rfl)
                    apply WZ.take (i := 5) (some 123) rfl rfl (by kernel_rfl) (by kernel_rfl) (by kernel_rfl) (calm_panic _) (by kernel_rfl)
                    case hy => exact .inr ⟨by kernel_rfl, rfl⟩
                    case hC => exact HC
                    case ha => (simp only [Act.put, List.setIfInBounds_toArray, List.set_cons_zero, List.set_cons_succ]; rfl)
                    apply WZ.take (i := 6) (some 124) rfl rfl (by kernel_rfl) (by kernel_rfl) (by kernel_rfl) (calm_panic _) (by kernel_rfl)
                    case hy => exact .inr ⟨by kernel_rfl, rfl⟩
                    case hC => exact HC
                    case ha => (simp only [Act.put, List.setIfInBounds_toArray, List.set_cons_zero, List.set_cons_succ]; rfl)
                    apply WZ.take (i := 7) (some 125) rfl rfl (by kernel_rfl) (by kernel_rfl) (by kernel_rfl) (calm_panic _) (by kernel_rfl)
                    case hy => exact .inr ⟨by kernel_rfl, rfl⟩
                    case hC => exact HC
                    case ha => (simp only [Act.put, List.setIfInBounds_toArray, List.set_cons_zero, List.set_cons_succ]; rfl)
                    apply WZ.take (i := 8) (some 126) rfl rfl (by kernel_rfl) (by kernel_rfl) (by kernel_rfl) (calm_panic _) (by kernel_rfl)
                    case hy => exact .inr ⟨by kernel_rfl, rfl⟩
                    case hC => exact HC
                    case ha => (simp only [Act.put, List.setIfInBounds_toArray, List.set_cons_zero, List.set_cons_succ]; rfl)
                    apply WZ.take (i := 9) (some 127) rfl rfl (by kernel_rfl) (by kernel_rfl) (by kernel_rfl) (calm_panic _) (by kernel_rfl)
                    case hy => exact .inr ⟨by kernel_rfl, rfl⟩
                    case hC => exact HC
                    case ha => (simp only [Act.put, List.setIfInBounds_toArray, List.set_cons_zero, List.set_cons_succ]; rfl)
                    apply WZ.take (i := 10) (some 128) rfl rfl (by kernel_rfl) (by kernel_rfl) (by kernel_rfl) (calm_panic _) (by kernel_rfl)
                    case hy => exact .inr ⟨by kernel_rfl, rfl⟩
                    case hC => exact HC
                    case ha => (simp only [Act.put, List.setIfInBounds_toArray, List.set_cons_zero, List.set_cons_succ]; rfl)
                    apply WZ.take (i := 11) (some 129) rfl rfl (by kernel_rfl) (by kernel_rfl) (by kernel_rfl) (calm_panic _) (by kernel_rfl)
                    case hy => exact .inr ⟨by kernel_rfl, rfl⟩
                    case hC => exact HC
                    case ha => (simp only [Act.put, List.setIfInBounds_toArray, List.set_cons_zero, List.set_cons_succ]; rfl)
                    apply WZ.take (i := 12) (some 130) rfl rfl (by kernel_rfl) (by kernel_rfl) (by kernel_rfl) (calm_panic _) (by kernel_rfl)
                    case hy => exact .inr ⟨by kernel_rfl, rfl⟩
                    case hC => exact HC
                    case ha => (simp only [Act.put, List.setIfInBounds_toArray, List.set_cons_zero, List.set_cons_succ]; rfl)
                    apply WZ.take (i := 13) (some 131) rfl rfl (by kernel_rfl) (by kernel_rfl) (by kernel_rfl) (calm_panic _) (by kernel_rfl)
                    case hy => exact .inr ⟨by kernel_rfl, rfl⟩
                    case hC => exact HC
                    case ha => (simp only [Act.put, List.setIfInBounds_toArray, List.set_cons_zero, List.set_cons_succ]; rfl)
                    apply WZ.take (i := 14) (some 132) rfl rfl (by kernel_rfl) (by kernel_rfl) (by kernel_rfl) (calm_panic _) (by kernel_rfl)
                    case hy => exact .inr ⟨by kernel_rfl, rfl⟩
                    case hC => exact HC
                    case ha => (simp only [Act.put, List.setIfInBounds_toArray, List.set_cons_zero, List.set_cons_succ]; rfl)
                    apply WZ.take (i := 15) (some 133) rfl rfl (by kernel_rfl) (by kernel_rfl) (by kernel_rfl) (calm_panic _) (by kernel_rfl)
                    case hy => exact .inr ⟨by kernel_rfl, rfl⟩
                    case hC => exact HC
                    case ha => (simp only [Act.put, List.setIfInBounds_toArray, List.set_cons_zero, List.set_cons_succ]; rfl)
                    apply WZ.take (i := 16) (some 134) rfl rfl (by kernel_rfl) (by kernel_rfl) (by kernel_rfl) (calm_panic _) (by kernel_rfl)
                    case hy => exact .inr ⟨by kernel_rfl, rfl⟩
                    case hC => exact HC
                    case ha => (simp only [Act.put, List.setIfInBounds_toArray, List.set_cons_zero, List.set_cons_succ]; rfl)
                    apply WZ.take (i := 17) (some 135) rfl rfl (by kernel_rfl) (by kernel_rfl) (by kernel_rfl) (calm_panic _) (by kernel_rfl)
                    case hy => (refine .inl ⟨by kernel_rfl, fun W hC => ?_⟩; (try dsimp only at hC); go_simp; (try simp only [hm2,hm3,hm4]); rfl)
                    case hC => exact HC
                    case ha => (simp only [Act.put, List.setIfInBounds_toArray, List.set_cons_zero, List.set_cons_succ]; rfl)
                    refine WZ.done (by kernel_rfl) ?_ _
                    simp only [Calm, Exit.then]
                    have HI3 := Lib.hid (HI.out.drewN (n + 1))
                    have B1 := Lib.hid (show (vals q).length = lq * 6 by rw [length_vals, HLQ.out]; omega)
                    have B2 := Lib.hid (show na + lq ≤ maxLen by unfold maxLen; omega)
                    have B3 := Lib.hid (show (na + lq) * 72 ≤ 140737488355328 by omega)
                    have B4 := Lib.hid HI3.out.1
                    have B5 := Lib.hid (Rd.drewN HRQ.out (n + 1))
                    have B6 := Lib.hid HI3.out.2.2.2.2.2.1
                    go_wp2_with (at_builtin; go_loud (refine wpList_app _ rfl _ _ _ rfl w2.heap.size 50 j0 zeroCell 6 72 Try.underlying22 hj0 jz0 jz1 jz2 rfl (by decide) _ _ _ _ rfl B4.out _ _ lq _ (vals q) rfl B5.out B1.out (vals_one _) B2.out B3.out B6.out ?_); intro A4 c4 w4 ho4 hg4 hat4; have HF := Lib.hid (HI3.out.more hkp HQ.out HLQ.out ho4 hg4); clear ho4 hg4 hat4 B1 B2 B3 B4 B5 B6)
                    exact ⟨⟨k + 1, A4, _, c4, by omega, rfl, by go_num, HF⟩, by simp [intOf]; omega⟩
                  · have hm2 : decide ((m : Int) < (lq : Int)) = true := decide_eq_true (by omega)
                    have hm4 : m < lq := by omega
                    have hm3 : decide (m < lq) = true := decide_eq_true hm4
                    obtain ⟨f, hf⟩ : ∃ f, lq = f + 1 := ⟨lq - 1, by omega⟩
                    have hfq : f < q.length := by rw [HLQ.out]; omega
                    obtain ⟨zf, -⟩ := Rd.cell_at (B := 0) HCQ.out f hfq
                    have hone : q[0].row = q[f].row := by
                      rcases HQ3.out with h | h
                      · exact absurd h (by rw [HLQ.out]; exact hlm)
                      · exact h _ (List.getElem_mem _) _ (List.getElem_mem _)
                    have hm5 : IntKind.i64.wrap ((lq : Int) - 1) = (f : Int) := by rw [IntWalk.i64_in _ (by omega)]; omega
                    have k7 : (0 : Int) ≤ (f : Int) := by omega
                    have k8 : (f : Int) < (lq : Int) := by omega
                    have z0' := z0
                    rw [← hone] at zf
                    obtain ⟨r0, hr0⟩ : ∃ r, q[0].row = r := ⟨_, rfl⟩
                    rw [hr0] at zf z0'
                    have HC : (wr.drewN n).cell? ⟨bq, oq, none⟩ = some (.string r0) ∧ (wr.drewN n).cell? ⟨bq, oq + f * 6, none⟩ = some (.string r0) := ⟨z0', zf⟩
                    have HFF := Lib.hid hf
                    clear hone hr0 zf hf
                    go_wp2
                    refine region_wz (fun W' => W'.cell? ⟨bq, oq, none⟩ = some (.string r0) ∧ W'.cell? ⟨bq, oq + f * 6, none⟩ = some (.string r0)) none (by kernel_rfl) ?_
                    apply WZ.take (i := 0) (some 118) rfl rfl (by kernel_rfl) (by kernel_rfl) (by kernel_rfl) (calm_panic _) (by kernel_rfl)
                    case hy => (refine .inl ⟨by kernel_rfl, fun W hC => ?_⟩; (try dsimp only at hC); go_simp; (try simp only [hm2,hm3,hm4,hm5]); rfl)
                    case hC => exact HC
                    case ha => (simp only [Act.put, List.setIfInBounds_toArray, List.set_cons_zero, List.set_cons_succ]; rfl)
                    apply WZ.take (i := 1) (some 119) rfl rfl (by kernel_rfl) (by kernel_rfl) (by kernel_rfl) (calm_panic _) (by kernel_rfl)
                    case hy => (refine .inl ⟨by kernel_rfl, fun W hC => ?_⟩; (try dsimp only at hC); go_simp; (try simp only [hm2,hm3,hm4,hm5]); rfl)
                    case hC => exact HC
                    case ha => (simp only [Act.put, List.setIfInBounds_toArray, List.set_cons_zero, List.set_cons_succ]; rfl)
                    apply WZ.take (i := 2) (some 120) rfl rfl (by kernel_rfl) (by kernel_rfl) (by kernel_rfl) (calm_panic _) (by kernel_rfl)
                    case hy => (refine .inl ⟨by kernel_rfl, fun W hC => ?_⟩; (try dsimp only at hC); go_simp; (try simp only [hm2,hm3,hm4,hm5]); rfl)
                    case hC => exact HC
                    case ha => (simp only [Act.put, List.setIfInBounds_toArray, List.set_cons_zero, List.set_cons_succ]; rfl)
                    apply WZ.take (i := 3) (some 121) rfl rfl (by kernel_rfl) (by kernel_rfl) (by kernel_rfl) (calm_panic _) (by kernel_rfl)
                    case hy => (refine .inl ⟨by kernel_rfl, fun W hC => ?_⟩; (try dsimp only at hC); go_simp; (try simp only [hm2,hm3,hm4,hm5]); rfl)
                    case hC => exact HC
                    case ha => (simp only [Act.put, List.setIfInBounds_toArray, List.set_cons_zero, List.set_cons_succ]; rfl)
                    apply WZ.take (i := 4) (some 122) rfl rfl (by kernel_rfl) (by kernel_rfl) (by kernel_rfl) (calm_panic _) (by kernel_rfl)
                    case hy => (refine .inl ⟨by kernel_rfl, fun W hC => ?_⟩; (try dsimp only at hC); go_simp; (try simp only [hm2,hm3,hm4,hm5]); rfl)
                    case hC => exact HC
                    case ha => (simp only [Act.put, List.setIfInBounds_toArray, List.set_cons_zero, List.set_cons_succ]; rfl)
                    apply WZ.take (i := 5) (some 123) rfl rfl (by kernel_rfl) (by kernel_rfl) (by kernel_rfl) (calm_panic _) (by kernel_rfl)
                    case hy => (refine .inl ⟨by kernel_rfl, fun W hC => ?_⟩; (try dsimp only at hC); go_simp; (try simp only [hm2,hm3,hm4,hm5]); rfl)
                    case hC => exact HC
                    case ha => (simp only [Act.put, List.setIfInBounds_toArray, List.set_cons_zero, List.set_cons_succ]; rfl)
                    apply WZ.take (i := 6) (some 124) rfl rfl (by kernel_rfl) (by kernel_rfl) (by kernel_rfl) (calm_panic _) (by kernel_rfl)
                    case hy => (refine .inl ⟨by kernel_rfl, fun W hC => ?_⟩; (try dsimp only at hC); go_simp; (try simp only [hm2,hm3,hm4,hm5]); rfl)
                    case hC => exact HC
                    case ha => (simp only [Act.put, List.setIfInBounds_toArray, List.set_cons_zero, List.set_cons_succ]; rfl)
                    apply WZ.take (i := 7) (some 125) rfl rfl (by kernel_rfl) (by kernel_rfl) (by kernel_rfl) (calm_panic _) (by kernel_rfl)
                    case hy => (refine .inl ⟨by kernel_rfl, fun W hC => ?_⟩; (try dsimp only at hC); go_simp; (try simp only [hm2,hm3,hm4,hm5]); rfl)
                    case hC => exact HC
                    case ha => (simp only [Act.put, List.setIfInBounds_toArray, List.set_cons_zero, List.set_cons_succ]; rfl)
                    apply WZ.take (i := 8) (some 126) rfl rfl (by kernel_rfl) (by kernel_rfl) (by kernel_rfl) (calm_panic _) (by kernel_rfl)
                    case hy => (refine .inl ⟨by kernel_rfl, fun W hC => ?_⟩; (try dsimp only at hC); go_simp; (try simp only [hm2,hm3,hm4,hm5]); rfl)
                    case hC => exact HC
                    case ha => (simp only [Act.put, List.setIfInBounds_toArray, List.set_cons_zero, List.set_cons_succ]; rfl)
                    apply WZ.take (i := 9) (some 127) rfl rfl (by kernel_rfl) (by kernel_rfl) (by kernel_rfl) (calm_panic _) (by kernel_rfl)
                    case hy => (refine .inl ⟨by kernel_rfl, fun W hC => ?_⟩; (try dsimp only at hC); go_simp; (try simp only [hm2,hm3,hm4,hm5]); rfl)
                    case hC => exact HC
                    case ha => (simp only [Act.put, List.setIfInBounds_toArray, List.set_cons_zero, List.set_cons_succ]; rfl)
                    apply WZ.take (i := 10) (some 128) rfl rfl (by kernel_rfl) (by kernel_rfl) (by kernel_rfl) (calm_panic _) (by kernel_rfl)
                    case hy => (refine .inl ⟨by kernel_rfl, fun W hC => ?_⟩; (try dsimp only at hC); go_simp; (try simp only [hm2,hm3,hm4,hm5]); rfl)
                    case hC => exact HC
                    case ha => (simp only [Act.put, List.setIfInBounds_toArray, List.set_cons_zero, List.set_cons_succ]; rfl)
                    apply WZ.take (i := 11) (some 129) rfl rfl (by kernel_rfl) (by kernel_rfl) (by kernel_rfl) (calm_panic _) (by kernel_rfl)
                    case hy => (refine .inl ⟨by kernel_rfl, fun W hC => ?_⟩; (try dsimp only at hC); go_simp; (try simp only [hm2,hm3,hm4,hm5]); rfl)
                    case hC => exact HC
                    case ha => (simp only [Act.put, List.setIfInBounds_toArray, List.set_cons_zero, List.set_cons_succ]; rfl)
                    apply WZ.take (i := 12) (some 130) rfl rfl (by kernel_rfl) (by kernel_rfl) (by kernel_rfl) (calm_panic _) (by kernel_rfl)
                    case hy => (refine .inl ⟨by kernel_rfl, fun W hC => ?_⟩; (try dsimp only at hC); go_simp; (try simp only [hm2,hm3,hm4,hm5]); rfl)
                    case hC => exact HC
                    case ha => (simp only [Act.put, List.setIfInBounds_toArray, List.set_cons_zero, List.set_cons_succ]; rfl)
                    apply WZ.take (i := 13) (some 131) rfl rfl (by kernel_rfl) (by kernel_rfl) (by kernel_rfl) (calm_panic _) (by kernel_rfl)
                    case hy => (refine .inl ⟨by kernel_rfl, fun W hC => ?_⟩; (try dsimp only at hC); go_simp; (try simp only [hm2,hm3,hm4,hm5]); rfl)
                    case hC => exact HC
                    case ha => (simp only [Act.put, List.setIfInBounds_toArray, List.set_cons_zero, List.set_cons_succ]; rfl)
                    apply WZ.take (i := 14) (some 132) rfl rfl (by kernel_rfl) (by kernel_rfl) (by kernel_rfl) (calm_panic _) (by kernel_rfl)
                    case hy => (refine .inl ⟨by kernel_rfl, fun W hC => ?_⟩; (try dsimp only at hC); go_simp; (try simp only [hm2,hm3,hm4,hm5]); rfl)
                    case hC => exact HC
                    case ha => (simp only [Act.put, List.setIfInBounds_toArray, List.set_cons_zero, List.set_cons_succ]; rfl)
                    apply WZ.take (i := 15) (some 133) rfl rfl (by kernel_rfl) (by kernel_rfl) (by kernel_rfl) (calm_panic _) (by kernel_rfl)
                    case hy => (refine .inl ⟨by kernel_rfl, fun W hC => ?_⟩; (try dsimp only at hC); go_simp; (try simp only [hm2,hm3,hm4,hm5]); rfl)
                    case hC => exact HC
                    case ha => (simp only [Act.put, List.setIfInBounds_toArray, List.set_cons_zero, List.set_cons_succ]; rfl)
                    apply WZ.take (i := 16) (some 134) rfl rfl (by kernel_rfl) (by kernel_rfl) (by kernel_rfl) (calm_panic _) (by kernel_rfl)
                    case hy => (refine .inl ⟨by kernel_rfl, fun W hC => ?_⟩; (try dsimp only at hC); go_simp; (try simp only [hm2,hm3,hm4,hm5]); rfl)
                    case hC => exact HC
                    case ha => (simp only [Act.put, List.setIfInBounds_toArray, List.set_cons_zero, List.set_cons_succ]; rfl)
                    apply WZ.take (i := 17) (some 135) rfl rfl (by kernel_rfl) (by kernel_rfl) (by kernel_rfl) (calm_panic _) (by kernel_rfl)
                    case hy => (refine .inl ⟨by kernel_rfl, fun W hC => ?_⟩; (try dsimp only at hC); go_simp; (try simp only [hm2,hm3,hm4,hm5]); rfl)
                    case hC => exact HC
                    case ha => (simp only [Act.put, List.setIfInBounds_toArray, List.set_cons_zero, List.set_cons_succ]; rfl)
                    refine WZ.done (by kernel_rfl) ?_ _
                    simp only [Calm, Exit.then]
                    have HI3 := Lib.hid (HI.out.drewN (n + 1))
                    have B1 := Lib.hid (show (vals q).length = lq * 6 by rw [length_vals, HLQ.out]; omega)
                    have B2 := Lib.hid (show na + lq ≤ maxLen by unfold maxLen; omega)
                    have B3 := Lib.hid (show (na + lq) * 72 ≤ 140737488355328 by omega)
                    have B4 := Lib.hid HI3.out.1
                    have B5 := Lib.hid (Rd.drewN HRQ.out (n + 1))
                    have B6 := Lib.hid HI3.out.2.2.2.2.2.1
                    go_wp2_with (at_builtin; go_loud (refine wpList_app _ rfl _ _ _ rfl w2.heap.size 50 j0 zeroCell 6 72 Try.underlying22 hj0 jz0 jz1 jz2 rfl (by decide) _ _ _ _ rfl B4.out _ _ lq _ (vals q) rfl B5.out B1.out (vals_one _) B2.out B3.out B6.out ?_); intro A4 c4 w4 ho4 hg4 hat4; have HF := Lib.hid (HI3.out.more hkp HQ.out HLQ.out ho4 hg4); clear ho4 hg4 hat4 B1 B2 B3 B4 B5 B6)
                    exact ⟨⟨k + 1, A4, _, c4, by omega, rfl, by go_num, HF⟩, by simp [intOf]; omega⟩
          · have j2 : decide ((k : Int) < (n1 : Int)) = false := decide_eq_false (by omega)
            have hall : flatTo P k = l := by rw [flatTo_all P (by rw [HN1.out]; omega), HF.out]
            have hnl : na = l.length := by rw [HNA.out, hall]
            have hsame := sameCells_any Aa A ca c l l wr _ (by have := Own.rd HI.out.1 (by decide); rwa [hall] at this) (HI.out.2.2.2.1.more HI.out.2.2.2.2.2.1) HL.out HL.out
            rw [decide_eq_true rfl, ← hnl] at hsame
            go_wp2_with (go_at_call 22; rw [← hnl]; refine hsame.mono ?_; rintro e w3 ⟨rfl, nq, rfl⟩)
            go_ret
            exact ⟨rfl, below_drewN HI.out.2.2.2.2.2.2.2 _⟩
      · have hspec : allSpec l ss m = ([], 40) := by
          unfold allSpec
          rw [if_pos hbo, if_neg hr]
        have hr' : rising l = false := by simpa using hr
        go_wp2_with (first
          | (go_at_call 9; refine (bounded_any A S c d l ss _ _ hl hs HL.out HL'.out).mono ?_; rw [hb]; rintro e w1 ⟨rfl, rfl⟩)
          | (go_at_call 10; refine (shown_any _).mono ?_; rintro e w1 ⟨rfl, hb1⟩
             have hl1 := (hl.below hb1).more hb1.size
             have hs1 := (hs.below hb1).more hb1.size
             have hz1 := hb1.size)
          | (go_at_call 20; refine (cutAll_any A S c d l ss m _ hl1 hs1 (by omega) (by omega) hcap (by omega)).mono ?_; rw [hspec]; rintro e w2 ⟨A1, n1, c1, vs, rfl, ho1, hb2⟩
             have hs2 := (hs1.below hb2).more hb2.size
             have hl2 := (hl1.below hb2).more hb2.size
             have hz2 := hb2.size)
          | (go_at_call 14; refine (cutBorders_any S d ss _ _ hs2 HL'.out).mono ?_; rw [hbo]; rintro e w5 ⟨rfl, rfl⟩)
          | (go_at_call 23; refine (refRising_any A c l _ hl2 HL.out).mono ?_; rw [hr']; rintro e w6 ⟨rfl, hb6⟩))
        go_ret
        exact ⟨rfl, hb1.trans ((hb2.mono hz1).trans (hb6.mono (Nat.le_trans hz1 hz2)))⟩
    · have hspec : allSpec l ss m = ([], 1) := by
        unfold allSpec
        rw [if_neg hbo]
      have hbo' : borders ss = false := by simpa using hbo
      go_wp2_with (first
          | (go_at_call 9; refine (bounded_any A S c d l ss _ _ hl hs HL.out HL'.out).mono ?_; rw [hb]; rintro e w1 ⟨rfl, rfl⟩)
          | (go_at_call 10; refine (shown_any _).mono ?_; rintro e w1 ⟨rfl, hb1⟩
             have hl1 := (hl.below hb1).more hb1.size
             have hs1 := (hs.below hb1).more hb1.size
             have hz1 := hb1.size)
          | (go_at_call 20; refine (cutAll_any A S c d l ss m _ hl1 hs1 (by omega) (by omega) hcap (by omega)).mono ?_; rw [hspec]; rintro e w2 ⟨A1, n1, c1, vs, rfl, ho1, hb2⟩
             have hs2 := (hs1.below hb2).more hb2.size)
          | (go_at_call 14; refine (cutBorders_any S d ss _ _ hs2 HL'.out).mono ?_; rw [hbo']; rintro e w5 ⟨rfl, rfl⟩))
      go_ret
      exact ⟨rfl, hb1.trans (hb2.mono hz1)⟩
  · have hb' : bnd l ss = false := by simpa using hb
    clear hb
    go_wp2_with (first
        | (go_at_call 9; refine (bounded_any A S c d l ss _ _ hl hs HL.out HL'.out).mono ?_; rw [hb']; rintro e w1 ⟨rfl, rfl⟩)
        | (go_at_call 10; refine (shown_any _).mono ?_; rintro e w1 ⟨rfl, hb1⟩))
    go_ret
    exact ⟨rfl, hb1⟩
end Go.Proofs.Yteacjikkojglmaa
