/-
  The walk of the reference's batch. No conditions.
-/
import Derived.Test.YtiiogdgnccgehaaRefIngest19
import Derived.Test.YtiiogdgnccgehaaRefBatchPlain19
namespace Go.Proofs.Ytiiogdgnccgehaa
open Go.RowKit
attribute [local go_sem ↓] Go.wp_at_zero Go.wp_at_succ

/-- the effect in block g, the other clients in a row of their own -/
structure RB (w W : World) (s : Sta) (xs : SA) (c : Cmd) (A : Option Addr) (k : Nat) (D : Option Addr) (m : Nat) (g : Nat) (ev : List Value) (A6 : Option Addr) (n c6 : Nat) (L : List Kl) : Prop where
  ri : RI w W s xs c A k D m
  ef : Blk 56 W g ev
  gq : w.heap.size + 1 + 1 + 1 < g
  ot : OwnRK W (w.heap.size + 1 + 1 + 2) A6 n c6 L
  og : ∀ b, blk A6 = some b → b < g
section
variable {w W W' : World} {s : Sta} {xs : SA} {c : Cmd} {A : Option Addr} {k : Nat} {D : Option Addr} {m g : Nat} {ev : List Value} {A6 : Option Addr} {n c6 : Nat} {L : List Kl}
theorem RB.below (h : RB w W s xs c A k D m g ev A6 n c6 L) (hb : Below W.heap.size W W') : RB w W' s xs c A k D m g ev A6 n c6 L := ⟨h.ri.below hb, h.ef.below hb h.ef.lt, h.gq, h.ot.below hb, h.og⟩
theorem RB.own (h : RB w W s xs c A k D m g ev A6 n c6 L) {b : Nat} (hg : W.grownBy W' (some b)) (hq : g < b) : RB w W' s xs c A k D m g ev A6 n c6 L :=
  have h1 := h.gq
  ⟨h.ri.own hg (fun b e => by injection e with e; omega), h.ef.grown hg (fun e => by injection e with e; omega), h1, Own.grown h.ot hg (.inr (fun e => by have := h.og _ e; omega)), h.og⟩
/-- a row of my own grew that lies behind the effect -/
theorem RB.grew (h : RB w W s xs c A k D m g ev A6 n c6 L) {z e n' c' : Nat} {A' : Option Addr} {l : List Value} (ho : Own W (g + 1) e z A' n' c' l) (hg : W.grownBy W' (blk A')) : RB w W' s xs c A k D m g ev A6 n c6 L := by
  cases hb : blk A' with
  | none =>
    rw [hb] at hg
    have hb' : Below W.heap.size W W' := ⟨hg.os, hg.tape, hg.output, hg.size, fun b h => hg.block b h (fun e => by cases e)⟩
    exact h.below hb'
  | some b =>
    rw [hb] at hg
    exact h.own hg (by have := (Own.lt ho _ hb).1; omega)
theorem RB.drew (h : RB w W s xs c A k D m g ev A6 n c6 L) : RB w W.drew s xs c A k D m g ev A6 n c6 L := ⟨h.ri.drew, h.ef, h.gq, h.ot, h.og⟩
theorem RB.setE (h : RB w W s xs c A k D m g ev A6 n c6 L) (j : Nat) (v : Value) : RB w (W.setCell ⟨g, j, none⟩ v) s xs c A k D m g (ev.set j v) A6 n c6 L :=
  have h1 := h.gq
  have hg := grown_set W g j v
  ⟨h.ri.own hg (fun b e => by injection e with e; omega), h.ef.set j v, h1, Own.grown h.ot hg (.inr (fun e => by have := h.og _ e; omega)), h.og⟩
end
theorem OwnRK.lit0 (W : World) {g : Nat} (hg : g ≤ W.heap.size) : OwnRK (W.alloc (.cells #[] 106)) g (some ⟨W.heap.size, 0, none⟩) 0 0 [] :=
  Own.lower (World.ownsRow_lit (e := 106) (size := 3) W #[] 0 (Nat.le_refl _) (by simp [maxLen]) rfl) hg
theorem rd_lit (W : World) (T : TypeId) (vs : List Value) : Rd (W.alloc (.cells vs.toArray T)) (W.alloc (.cells vs.toArray T)).heap.size (some ⟨W.heap.size, 0, none⟩) vs := Rd.ofBlock (heap_alloc_new W _) (by simp)
/-- ahead of the answer of a new batch -/
theorem batch_fin {w W : World} {s : Sta} {xs : SA} {c : Cmd} {A : Option Addr} {k : Nat} {D : Option Addr} {m g : Nat} {A9 : Option Addr} {n9 c9 : Nat} {l : List Kl} {Ac : Option Addr} {j cc : Nat} {Lc : List Cl} {E : Int} {s' : Sta} (h : RI w W s xs c A k D m) (hin : StaIn w w.heap.size s xs) (hi : InW w xs)
    (ho : OwnRK W (w.heap.size + 1 + 1 + 2) A9 n9 c9 l) (hc : OwnC W (g + 1) Ac j cc Lc) (hq : w.heap.size + 1 + 1 + 1 < g) (hs' : { s with clients := l } = s') :
    RF w (W.setCell ⟨w.heap.size, 4, none⟩ (.slice A9 n9 c9)) (w.heap.size + 1 + 1) (s', ⟨E, false, Lc, []⟩) xs ⟨xs.A, xs.a, xs.D, xs.d, A9, c9⟩ Ac cc none 0 := by
  have hn := ho.len
  subst hn hs'
  have h1 := h.rm.set 4 (.slice A9 l.length c9) (s' := { s with clients := l }) (ys := ⟨xs.A, xs.a, xs.D, xs.d, A9, c9⟩) rfl
  have g1 := grown_set W w.heap.size 4 (.slice A9 l.length c9)
  have hj := Own.grown ho g1 (.inr (own_off ho (by omega)))
  have hcc := Own.grown hc g1 (.inr (own_off hc (by omega)))
  have hs := hin.grown h1.bl
  have n1 := hi.notAt (g := w.heap.size + 1 + 1) (by omega)
  have n2 := hi.notAt (g := w.heap.size + 1 + 1 + 1) (by omega)
  exact ⟨h1.bl, h1.st, h1.a, h1.e, h1.q0, ⟨hs.rb, hs.rj, Own.rd hj (by omega)⟩, ⟨From.refl _ _ _, From.refl _ _ _, From.new (fun b hb => by have := Own.lt hj _ hb; omega)⟩, ⟨n1.A, n1.D, own_off ho (by omega)⟩, ⟨n2.A, n2.D, own_off ho (by omega)⟩, Own.rd hcc (by omega), Rd.nil, ⟨own_off hc (by omega), own_off hc (by omega)⟩, ⟨blk_none _, blk_none _⟩, fun b hb => by have := (Own.lt hcc _ hb).1; omega⟩
theorem own_apart {w : World} {g e z n c : Nat} {A A' : Option Addr} {l : List Value} (h : Own w (g + 1) e z A n c l) (h' : ∀ b, blk A' = some b → b < g) : blk A = none ∨ blk A ≠ blk A' := by
  cases hb : blk A with
  | none => exact .inl rfl
  | some b => exact .inr (fun e => by have h1 := (Own.lt h _ hb).1; have h2 := h' b e.symm; omega)
theorem blk_drew {T : TypeId} {W : World} {g : Nat} {cs : List Value} (h : Blk T W g cs) : Blk T W.drew g cs := h
def stamp (i : Nat) (x : Cl) : Cl := { x with seq := i }
def VE (E : Int) (Lc : List Cl) (Ac : Option Addr) (cc : Nat) : List Value := Eff.vs ⟨E, false, Lc, []⟩ Ac cc none 0
set_option maxRecDepth 100000 in
set_option maxHeartbeats 16000000 in
theorem refBatch_any (w : World) (s : Sta) (xs : SA) (c : Cmd) (A : Option Addr) (k : Nat) (D : Option Addr) (m : Nat) (hin : StaIn w w.heap.size s xs) (hi : InW w xs) (hc : CmdIn w w.heap.size c A k D m) (hu : Uniq s) (hkl : s.clients.length ≤ 1000) (hcl : c.cells.length ≤ 1000) :
    Calls Try.prog 47 #[.agg (s.vs xs).toArray, .agg (c.vs A k D m).toArray] w (ROut w xs D (batchS s c)) := by
  have HM := Lib.hid (RI.start w s xs c A k D m)
  have HIN := Lib.hid hin
  have HI := Lib.hid hi
  have HCI := Lib.hid hc
  have HU := Lib.hid hu
  obtain ⟨N, hN⟩ : ∃ N, s.clients.length = N := ⟨_, rfl⟩
  have HN := Lib.hid hN
  rw [hN] at hkl
  unfold staz effz Sta.vs Cmd.vs at HM
  unfold Sta.vs Cmd.vs
  have hsz := (show ((((w.alloc (.cells (s.vs xs).toArray 51)).alloc (.cells (c.vs A k D m).toArray 34)).alloc (.cells staz.toArray 51)).alloc (.cells effz.toArray 56)).heap.size = w.heap.size + 1 + 1 + 1 + 1 by rw [World.size_alloc, World.size_alloc, World.size_alloc, World.size_alloc])
  have hol := OwnRK.lit0 ((((w.alloc (.cells (s.vs xs).toArray 51)).alloc (.cells (c.vs A k D m).toArray 34)).alloc (.cells staz.toArray 51)).alloc (.cells effz.toArray 56)) (g := w.heap.size + 1 + 1 + 2) (by rw [hsz]; omega)
  rw [hsz] at hol
  have HOL := Lib.hid hol
  clear hin hi hc hu hN hol hsz
  go_enter Try.func47, Try.ntmps47
  go_wp2
  go_loopw [6, 7] (fun v6 v7 wr => ∃ (i n c6 : Nat) (A6 : Option Addr), v6 = .slice A6 n c6 ∧ v7 = .int .i64 (i : Int) ∧ i ≤ N ∧ n ≤ i ∧ Hid (RI w wr s xs c A k D m) ∧ Hid (OwnRK wr (w.heap.size + 1 + 1 + 2) A6 n c6 (othersL c.client (s.clients.take i))) ∧ Hid (okTo (fun x => x.id = c.client → x.num < c.num) s.clients i)) (fun _ v7 _ => N - (intOf v7).toNat)
  case atStart => exact ⟨0, 0, 0, _, rfl, rfl, Nat.zero_le _, Nat.le_refl _, Lib.hid (HM.out.below (below_al _ _)), HOL, Lib.hid (okTo_zero _ _)⟩
  case round =>
    clear HM HOL
    obtain ⟨i, n, c6, A6, rfl, rfl, hik, hni, HM, HO, HV⟩ := hrel
    rename World => wr
    have s4 := HM.out.rm.st.cell (j := 4) rfl
    rw [HN.out] at s4
    by_cases hlt : i < N
    · have hil : i < s.clients.length := by rw [HN.out]; exact hlt
      have e1 : decide ((i : Int) < (N : Int)) = true := decide_eq_true (by omega)
      have k1' : (0 : Int) ≤ (i : Int) := by omega
      have k2' : (i : Int) < (N : Int) := by omega
      have hw3 : IntKind.i64.wrap ((i : Int) + 1) = ((i + 1 : Nat) : Int) := by rw [IntWalk.i64_in _ (by omega)]; omega
      obtain ⟨b, o, hA, hb0, hcc⟩ := HIN.out.rc.at_ (kls_ne hil)
      rw [hA] at s4
      obtain ⟨x, hx⟩ : ∃ x, s.clients[i] = x := ⟨_, rfl⟩
      have hrx := Rd.enc_range Kl.vs_len hcc i hil
      rw [hx] at hrx
      have HRX := Lib.hid (fun (W : World) (hb : Below w.heap.size w W) => rangeAt_below hrx hb hb0)
      have HX := Lib.hid hx
      clear hA hcc hrx hx
      by_cases hid : x.id = c.client
      · have q1 : ((x.id : Int) != (c.client : Int)) = false := by rw [hid]; simp
        by_cases hn : c.num = x.num
        · have q2 : ((c.num : Int) == (x.num : Int)) = true := by rw [hn]; simp
          have HRS := Lib.hid (batch_told HU.out hil HX.out hid hn)
          clear hid hn
          go_upto_region 9 with (first
            | ((with_reducible show wpList _ _ _ ({ dst := none, op := Op.store _ (Operand.tmp 8) _, type := _, pos := _, after := _, guard := _ } :: _) _ _); go_loud (refine wpList_store_mid rfl 106 (.tmp 8) (.tmp 24) rfl wr.heap.size 0 x.vs.toArray rfl rfl (there_madeB 106 wr [.int .u64 0, .int .u64 0, .int .i64 0] 3 (Nat.le_refl _)) (by kernel_rfl) (by simp [Value.oneCell', Kl.vs]) ?_); refine Blk.madeW 106 wr [.int .u64 0, .int .u64 0, .int .i64 0] x.vs rfl ?_; intro w5 HX5 HB5; have HM5 := Lib.hid (HM.out.below HB5.out); have HO5 := Lib.hid (HO.out.below HB5.out); have x0 := HX5.out.cell (j := 0) rfl; have x1 := HX5.out.cell (j := 1) rfl; have x2 := HX5.out.cell (j := 2) rfl; have k1 := HM5.out.cm.cell (j := 1) rfl; have k2 := HM5.out.cm.cell (j := 2) rfl; skip)
            | ((with_reducible show wpList _ _ _ ({ dst := some 24, op := Op.load _ _, type := _, pos := _, after := _, guard := _ } :: _) _ _); go_loud (refine wpList_load_mid rfl 106 (.tmp 23) rfl b (o + i * 3) rfl x.vs _ (HRX.out wr HM.out.rm.bl) Try.underlying106 rfl (by kernel_rfl) ?_))
            )
          have HF := Lib.hid (RM.same HM5.out.rm HIN.out HI.out x.e true).drew
          have HXD := Lib.hid (show Blk 106 w5.drew wr.heap.size x.vs from HX5.out)
          have hwr := HM.out.rm.e.lt
          have HC := (show World.rangeAt _ w.heap.size 0 (s.vs xs) ∧ World.cell? _ ⟨wr.heap.size, 2, none⟩ = some (.int .i64 x.e) from ⟨HF.out.st.range, HXD.out.cell (j := 2) rfl⟩)
          refine region_wz (fun W => W.rangeAt w.heap.size 0 (s.vs xs) ∧ W.cell? ⟨wr.heap.size, 2, none⟩ = some (.int .i64 x.e)) (some 5) (by kernel_rfl) ?_
          apply WZ.take (i := 0) (some 39) rfl rfl (by kernel_rfl) (by kernel_rfl) (by kernel_rfl) (calm_panic _) (by kernel_rfl)
          case hy => first | (apply yieldsIf_load_mid (by kernel_rfl) _ _ rfl _ _ rfl; (case hS => (intro W hC; exact hC.1)); (case hu => exact Try.underlying51); (case hd => rfl); (case hi => kernel_rfl)) | (apply yieldsIf_load_mid (by kernel_rfl) _ _ rfl _ _ rfl; (case hS => (intro W hC; exact hC.2.1)); (case hu => exact Try.underlying51); (case hd => rfl); (case hi => kernel_rfl)) | (apply yieldsIf_load_mid (by kernel_rfl) _ _ rfl _ _ rfl; (case hS => (intro W hC; exact hC.2.2.1)); (case hu => exact Try.underlying51); (case hd => rfl); (case hi => kernel_rfl)) | (apply yieldsIf_load_mid (by kernel_rfl) _ _ rfl _ _ rfl; (case hS => (intro W hC; exact hC.2.2.2.1)); (case hu => exact Try.underlying51); (case hd => rfl); (case hi => kernel_rfl)) | (apply yieldsIf_load_mid (by kernel_rfl) _ _ rfl _ _ rfl; (case hS => (intro W hC; exact hC.2.2.2)); (case hu => exact Try.underlying51); (case hd => rfl); (case hi => kernel_rfl)) | (apply yieldsIf_load_mid (by kernel_rfl) _ _ rfl _ _ rfl; (case hS => (intro W hC; exact hC.2.2)); (case hu => exact Try.underlying51); (case hd => rfl); (case hi => kernel_rfl)) | (apply yieldsIf_load_mid (by kernel_rfl) _ _ rfl _ _ rfl; (case hS => (intro W hC; exact hC.2)); (case hu => exact Try.underlying51); (case hd => rfl); (case hi => kernel_rfl)) | (apply yieldsIf_load_mid (by kernel_rfl) _ _ rfl _ _ rfl; (case hS => (intro W hC; exact hC)); (case hu => exact Try.underlying51); (case hd => rfl); (case hi => kernel_rfl))
          case hC => exact HC
          case ha => (simp only [Act.put, List.setIfInBounds_toArray, List.set_cons_zero, List.set_cons_succ]; rfl)
          apply WZ.take (i := 1) (some 40) rfl rfl (by kernel_rfl) (by kernel_rfl) (by kernel_rfl) (calm_panic _) (by kernel_rfl)
          case hy => (refine .inl ⟨by kernel_rfl, fun W hC => ?_⟩; (try dsimp only at hC); go_simp; rfl)
          case hC => exact HC
          case ha => (simp only [Act.put, List.setIfInBounds_toArray, List.set_cons_zero, List.set_cons_succ]; rfl)
          apply WZ.take (i := 2) (some 41) rfl rfl (by kernel_rfl) (by kernel_rfl) (by kernel_rfl) (calm_panic _) (by kernel_rfl)
          case hy => (refine .inl ⟨by kernel_rfl, fun W hC => ?_⟩; (try dsimp only at hC); go_simp; rfl)
          case hC => exact HC
          case ha => (simp only [Act.put, List.setIfInBounds_toArray, List.set_cons_zero, List.set_cons_succ]; rfl)
          apply WZ.take (i := 3) (some 42) rfl rfl (by kernel_rfl) (by kernel_rfl) (by kernel_rfl) (calm_panic _) (by kernel_rfl)
          case hy => (refine .inl ⟨by kernel_rfl, fun W hC => ?_⟩; (try dsimp only at hC); go_simp; rfl)
          case hC => exact HC
          case ha => (simp only [Act.put, List.setIfInBounds_toArray, List.set_cons_zero, List.set_cons_succ]; rfl)
          -- 4
          refine WZ.one (i := 4) rfl (by kernel_rfl) ?_
          conv => arg 4; arg 1; whnf
          go_wp2_with ((with_reducible show wpList _ _ _ ({ dst := none, op := Op.store _ (Operand.tmp 4) _, type := _, pos := _, after := _, guard := _ } :: _) _ _); go_loud (refine wpList_store_mid rfl 51 (.tmp 4) (.tmp 39) rfl (w.heap.size + 1 + 1) 0 (Sta.vs s xs).toArray rfl rfl (HF.out.a.there 5 (Nat.le_refl _)) (by kernel_rfl) (by simp [Value.oneCell', Sta.vs]) ?_); refine HF.out.a.setW (Sta.vs s xs) rfl ?_; intro w21 HT21 HG21; have HE21 := Lib.hid (HF.out.e.grown HG21.out (fun e => by injection e; omega)))
          clear HC
          have HC := (show World.rangeAt w21 w.heap.size 0 (s.vs xs) ∧ World.cell? w21 ⟨wr.heap.size, 2, none⟩ = some (.int .i64 x.e) from ⟨(HF.out.st.grown HG21.out (fun e => by injection e; omega)).range, (HXD.out.grown HG21.out (fun e => by injection e; omega)).cell (j := 2) rfl⟩)
          refine ⟨HC, ?_⟩
          -- 5
          refine WZ.last (i := 5) rfl (by kernel_rfl) (by kernel_rfl) ?_
          conv => arg 4; arg 1; whnf
          go_wp2_with ((with_reducible show wpList _ _ _ ({ dst := none, op := Op.store _ (Operand.tmp 5) _, type := _, pos := _, after := _, guard := _ } :: _) _ _); go_loud (refine wpList_store_mid rfl 56 (.tmp 5) (.tmp 42) rfl ((w.heap.size + 1 + 1) + 1) 0 (Eff.vs ⟨x.e, true, [], []⟩ none 0 none 0).toArray rfl rfl (HE21.out.there 4 (Nat.le_refl _)) (by kernel_rfl) (by simp [Value.oneCell', Eff.vs]) ?_); refine HE21.out.setW (Eff.vs ⟨x.e, true, [], []⟩ none 0 none 0) rfl ?_; intro w22 HE22 HG22)
          refine WZ.done (by kernel_rfl) ?_ _
          simp only [Calm, Exit.then]
          go_wp2
          (try simp only [Exit.inBlock, Exit.then])
          refine bodyPost_ret (blk_two rfl Try.underlying51 rfl Try.underlying56 rfl _ _ (w.heap.size + 1 + 1) ((w.heap.size + 1 + 1) + 1) _ _ (by kernel_rfl) (by kernel_rfl) rfl rfl (HT21.out.grown HG22.out (fun e => by injection e; omega)) HE22.out) rfl ?_
          rw [HRS.out]
          exact HF.out.out HG21.out HG22.out (by first | exact .inl rfl | exact .inr rfl)
        · have q2 : ((c.num : Int) == (x.num : Int)) = false := by rw [ofnat_beq]; exact decide_eq_false hn
          by_cases hn2 : c.num < x.num
          · have q3 : decide ((c.num : Int) < (x.num : Int)) = true := decide_eq_true (by omega)
            have HRS := Lib.hid (batch_stale HU.out hil HX.out hid hn2)
            clear hid hn
            go_wp2_with (first
              | ((with_reducible show wpList _ _ _ ({ dst := some 48, op := Op.load _ _, type := _, pos := _, after := _, guard := _ } :: _) _ _); go_loud (refine wpList_load_mid rfl 51 (.tmp 2) rfl w.heap.size 0 rfl (Sta.vs s xs) _ HF.out.st.range Try.underlying51 rfl (by kernel_rfl) ?_))
              | ((with_reducible show wpList _ _ _ ({ dst := none, op := Op.store _ (Operand.tmp 4) _, type := _, pos := _, after := _, guard := _ } :: _) _ _); go_loud (refine wpList_store_mid rfl 51 (.tmp 4) (.tmp 48) rfl (w.heap.size + 1 + 1) 0 (Sta.vs s xs).toArray rfl rfl (HF.out.a.there 5 (Nat.le_refl _)) (by kernel_rfl) (by simp [Value.oneCell', Sta.vs]) ?_); refine HF.out.a.setW (Sta.vs s xs) rfl ?_; intro w21 HT21 HG21; have HE21 := Lib.hid (HF.out.e.grown HG21.out (fun e => by injection e; omega)))
              | ((with_reducible show wpList _ _ _ ({ dst := none, op := Op.store _ (Operand.tmp 5) _, type := _, pos := _, after := _, guard := _ } :: _) _ _); go_loud (refine wpList_store_mid rfl 56 (.tmp 5) (.tmp 49) rfl ((w.heap.size + 1 + 1) + 1) 0 (Eff.vs ⟨4, false, [], []⟩ none 0 none 0).toArray rfl rfl (HE21.out.there 4 (Nat.le_refl _)) (by kernel_rfl) (by simp [Value.oneCell', Eff.vs]) ?_); refine HE21.out.setW (Eff.vs ⟨4, false, [], []⟩ none 0 none 0) rfl ?_; intro w22 HE22 HG22)
              | ((with_reducible show wpList _ _ _ ({ dst := none, op := Op.store _ (Operand.tmp 8) _, type := _, pos := _, after := _, guard := _ } :: _) _ _); go_loud (refine wpList_store_mid rfl 106 (.tmp 8) (.tmp 24) rfl wr.heap.size 0 x.vs.toArray rfl rfl (there_madeB 106 wr [.int .u64 0, .int .u64 0, .int .i64 0] 3 (Nat.le_refl _)) (by kernel_rfl) (by simp [Value.oneCell', Kl.vs]) ?_); refine Blk.madeW 106 wr [.int .u64 0, .int .u64 0, .int .i64 0] x.vs rfl ?_; intro w5 HX5 HB5; have HM5 := Lib.hid (HM.out.below HB5.out); have HO5 := Lib.hid (HO.out.below HB5.out); have x0 := HX5.out.cell (j := 0) rfl; have x1 := HX5.out.cell (j := 1) rfl; have x2 := HX5.out.cell (j := 2) rfl; have k1 := HM5.out.cm.cell (j := 1) rfl; have k2 := HM5.out.cm.cell (j := 2) rfl; have HF := Lib.hid (RM.same HM5.out.rm HIN.out HI.out 4 false))
              | ((with_reducible show wpList _ _ _ ({ dst := some 24, op := Op.load _ _, type := _, pos := _, after := _, guard := _ } :: _) _ _); go_loud (refine wpList_load_mid rfl 106 (.tmp 23) rfl b (o + i * 3) rfl x.vs _ (HRX.out wr HM.out.rm.bl) Try.underlying106 rfl (by kernel_rfl) ?_))
              )
            (try simp only [Exit.inBlock, Exit.then])
            refine bodyPost_ret (blk_two rfl Try.underlying51 rfl Try.underlying56 rfl _ _ (w.heap.size + 1 + 1) ((w.heap.size + 1 + 1) + 1) _ _ (by kernel_rfl) (by kernel_rfl) rfl rfl (HT21.out.grown HG22.out (fun e => by injection e; omega)) HE22.out) rfl ?_
            rw [HRS.out]
            exact HF.out.out HG21.out HG22.out (by first | exact .inl rfl | exact .inr rfl)
          · have q3 : decide ((c.num : Int) < (x.num : Int)) = false := decide_eq_false (by omega)
            have HL := Lib.hid (others_out (id := c.client) hil (by rw [HX.out]; exact hid))
            have HV2 := Lib.hid (okTo_succ HV.out hil (by rw [HX.out]; intro _; omega))
            clear hid hn
            go_wp2_with (first
              | ((with_reducible show wpList _ _ _ ({ dst := none, op := Op.store _ (Operand.tmp 8) _, type := _, pos := _, after := _, guard := _ } :: _) _ _); go_loud (refine wpList_store_mid rfl 106 (.tmp 8) (.tmp 24) rfl wr.heap.size 0 x.vs.toArray rfl rfl (there_madeB 106 wr [.int .u64 0, .int .u64 0, .int .i64 0] 3 (Nat.le_refl _)) (by kernel_rfl) (by simp [Value.oneCell', Kl.vs]) ?_); refine Blk.madeW 106 wr [.int .u64 0, .int .u64 0, .int .i64 0] x.vs rfl ?_; intro w5 HX5 HB5; have HM5 := Lib.hid (HM.out.below HB5.out); have HO5 := Lib.hid (HO.out.below HB5.out); have x0 := HX5.out.cell (j := 0) rfl; have x1 := HX5.out.cell (j := 1) rfl; have x2 := HX5.out.cell (j := 2) rfl; have k1 := HM5.out.cm.cell (j := 1) rfl; have k2 := HM5.out.cm.cell (j := 2) rfl; skip)
              | ((with_reducible show wpList _ _ _ ({ dst := some 24, op := Op.load _ _, type := _, pos := _, after := _, guard := _ } :: _) _ _); go_loud (refine wpList_load_mid rfl 106 (.tmp 23) rfl b (o + i * 3) rfl x.vs _ (HRX.out wr HM.out.rm.bl) Try.underlying106 rfl (by kernel_rfl) ?_))
              )
            rw [HL.out] at HO5
            exact ⟨⟨i + 1, n, c6, A6, rfl, by first | rfl | go_num, by omega, by omega, HM5, HO5, HV2⟩, by simp [intOf]; omega⟩
      · have q1 : ((x.id : Int) != (c.client : Int)) = true := by simp only [bne_iff_ne, ne_eq]; omega
        have HL := Lib.hid (others_in (id := c.client) hil (by rw [HX.out]; exact hid))
        rw [HX.out] at HL
        have HV2 := Lib.hid (okTo_succ HV.out hil (by rw [HX.out]; intro h; exact absurd h hid))
        clear hid
        go_wp2_with (first
          | ((with_reducible show wpList _ _ _ ({ dst := some 31, op := Op.load _ _, type := _, pos := _, after := _, guard := _ } :: _) _ _); go_loud (refine wpList_load_mid rfl 106 (.tmp 8) rfl wr.heap.size 0 rfl [.int .u64 x.id, .int .u64 x.num, .int .i64 x.e] _ HX5.out.range Try.underlying106 rfl (by kernel_rfl) ?_))
          | (have hgate := HO5; clear hgate; at_builtin; go_loud (refine rclients_app rfl _ _ rfl (w.heap.size + 1 + 1 + 2) A6 n c6 (n + 1) (othersL c.client (s.clients.take i)) [x] rfl (HO5.out.below (below_al _ _)) (some ⟨w5.heap.size, 0, none⟩) 1 1 rfl (rd_lit w5 106 [.int .u64 x.id, .int .u64 x.num, .int .i64 x.e]) rfl rfl (by omega) (by rw [World.size_alloc]; have := HM5.out.rm.e.lt; omega) ?_); intro A8 c8 w8 HO8 HG8; go_loud (have HM8 := Lib.hid ((HM5.out.below (below_al w5 (.cells #[.int .u64 x.id, .int .u64 x.num, .int .i64 x.e] 106))).own HG8.out (fun b e => by have := (Own.lt HO5.out _ e).1; omega))))
          | ((with_reducible show wpList _ _ _ ({ dst := none, op := Op.store _ (Operand.tmp 8) _, type := _, pos := _, after := _, guard := _ } :: _) _ _); go_loud (refine wpList_store_mid rfl 106 (.tmp 8) (.tmp 24) rfl wr.heap.size 0 x.vs.toArray rfl rfl (there_madeB 106 wr [.int .u64 0, .int .u64 0, .int .i64 0] 3 (Nat.le_refl _)) (by kernel_rfl) (by simp [Value.oneCell', Kl.vs]) ?_); refine Blk.madeW 106 wr [.int .u64 0, .int .u64 0, .int .i64 0] x.vs rfl ?_; intro w5 HX5 HB5; have HM5 := Lib.hid (HM.out.below HB5.out); have HO5 := Lib.hid (HO.out.below HB5.out); have x0 := HX5.out.cell (j := 0) rfl; have x1 := HX5.out.cell (j := 1) rfl; have x2 := HX5.out.cell (j := 2) rfl; have k1 := HM5.out.cm.cell (j := 1) rfl; have k2 := HM5.out.cm.cell (j := 2) rfl; skip)
          | ((with_reducible show wpList _ _ _ ({ dst := some 24, op := Op.load _ _, type := _, pos := _, after := _, guard := _ } :: _) _ _); go_loud (refine wpList_load_mid rfl 106 (.tmp 23) rfl b (o + i * 3) rfl x.vs _ (HRX.out wr HM.out.rm.bl) Try.underlying106 rfl (by kernel_rfl) ?_))
          )
        rw [HL.out] at HO8
        exact ⟨⟨i + 1, n + 1, c8, A8, rfl, by first | rfl | go_num, by omega, by omega, HM8, HO8, HV2⟩, by simp [intOf]; omega⟩
    · have e1 : decide ((i : Int) < (N : Int)) = false := decide_eq_false (by omega)
      have htk : s.clients.take i = s.clients := List.take_of_length_le (by rw [HN.out]; omega)
      rw [htk] at HO
      have hfin := batch_new HU.out (okTo_end HV.out (by rw [HN.out]; omega))
      have hwr := HM.out.rm.e.lt
      obtain ⟨L, hL⟩ : ∃ L, othersL c.client s.clients = L := ⟨_, rfl⟩
      rw [hL] at HO hfin
      have hn1 : n ≤ 1000 := by omega
      obtain ⟨M, hM⟩ : ∃ M, c.cells.length = M := ⟨_, rfl⟩
      have HM9 := Lib.hid hM
      have c3 := HM.out.cm.cell (j := 3) rfl
      have hcr := HCI.out.rc
      have HRC := Lib.hid (fun (W : World) (hb : Below w.heap.size w W) => show Rd W W.heap.size A (vals c.cells) from (hcr.below hb).more hb.size)
      have HTW := Lib.hid (fun (W : World) (hb : Below w.heap.size w W) => refTwice_any A k c.cells W ((hcr.below hb).more hb.size) (by omega))
      rw [hM] at c3 HTW hcl
      by_cases hb : badB c
      · obtain ⟨s', hs'⟩ : ∃ s' : Sta, ({ s with clients := L ++ [(⟨c.client, c.num, 1⟩ : Kl)] } : Sta) = s' := ⟨_, rfl⟩
        have HS' := Lib.hid hs'
        have HRS := Lib.hid (show batchS s c = (s', ⟨1, false, [], []⟩) by rw [hfin]; simp only [if_pos hb]; rw [hs'])
        by_cases hz : c.cells = []
        · have q0 : M = 0 := by rw [← hM, hz]; rfl
          have b0 : ((M : Int) == 0) = true := by rw [q0]; rfl
          clear hb hz hfin hs' hL htk hM hcr q0
          go_upto_region 21 with (first
            | ((with_reducible show wpList _ _ _ ({ dst := none, op := Op.store _ (Operand.tmp 9) _, type := _, pos := _, after := _, guard := _ } :: _) _ _); go_loud (refine wpList_store_mid rfl 56 (.tmp 9) (.tmp 50) rfl wr.heap.size 0 effz.toArray rfl rfl (there_madeB 56 wr effz 4 (Nat.le_refl _)) (by kernel_rfl) (by simp [Value.oneCell', effz]) ?_); refine Blk.madeW 56 wr effz effz rfl ?_; intro w7 HE7 HB7; have HB := Lib.hid (show RB w w7 s xs c A k D m wr.heap.size effz A6 n c6 L from ⟨HM.out.below HB7.out, HE7.out, hwr, HO.out.below HB7.out, fun b e => (Own.lt HO.out _ e).2⟩); have c37 := (HB.out.ri.cm.cell (j := 3) rfl).trans (congrArg (fun q => some (Value.slice A q k)) HM9.out); have f0 := HB.out.ef.free 0; have d0 := HB.out.ef.cell (j := 0) rfl)
            )
          have HB1 := Lib.hid (show RB w _ s xs c A k D m wr.heap.size (VE 1 [] none 0) A6 n c6 L from HB.out.setE 0 (.int .i64 1))
          generalize World.setCell w7 ⟨wr.heap.size, 0, none⟩ (.int .i64 1) = w8 at HB1 ⊢
          clear HB
          have HB := HB1
          have HOC := Lib.hid (show OwnC w8 (wr.heap.size + 1) none 0 0 [] from OwnC.nil)
          clear HB1 f0 d0 c37
          have p1 := HB.out.ri.cm.cell (j := 1) rfl
          have p2 := HB.out.ri.cm.cell (j := 2) rfl
          have p0 := (show World.cell? w8 ⟨wr.heap.size, 0, none⟩ = some (.int .i64 1) from HB.out.ef.cell (j := 0) rfl)
          go_upto_region 22 with (at_builtin; go_loud (refine rclients_app rfl _ _ rfl (w.heap.size + 1 + 1 + 2) A6 n c6 (n + 1) L [⟨c.client, c.num, 1⟩] rfl (HB.out.ot.below (below_al _ _)) (some ⟨w8.heap.size, 0, none⟩) 1 1 rfl (rd_lit w8 106 [.int .u64 c.client, .int .u64 c.num, .int .i64 1]) rfl rfl (by omega) (by rw [World.size_alloc]; have := HB.out.ri.rm.e.lt; omega) ?_); intro A9 c9 w9 HO9 HG9; go_loud (have HM9' := Lib.hid ((HB.out.ri.below (below_al w8 (.cells #[.int .u64 c.client, .int .u64 c.num, .int .i64 1] 106))).own HG9.out (fun b e => by have := (Own.lt HB.out.ot _ e).1; omega))); have f4 := HM9'.out.rm.st.free 4; have p4 := HM9'.out.rm.st.cell (j := 4) rfl; go_loud (have HE9 := Lib.hid ((HB.out.ef.below (below_al w8 (.cells #[.int .u64 c.client, .int .u64 c.num, .int .i64 1] 106)) HB.out.ef.lt).grown HG9.out (fun e => by have := HB.out.og _ e; omega))); go_loud (have HOC9 := Lib.hid (show OwnC _ _ none _ 0 _ from Own.grown (Own.below HOC.out (below_al w8 (.cells #[.int .u64 c.client, .int .u64 c.num, .int .i64 1] 106))) HG9.out (own_apart HOC.out HB.out.og))))
          have HF := Lib.hid (batch_fin (E := 1) HM9'.out HIN.out HI.out HO9.out HOC9.out HB.out.gq HS'.out).drew
          have HE := Lib.hid (HE9.out.grown (grown_set w9 w.heap.size 4 (.slice A9 (n + 1) c9)) (fun e => by injection e; omega))
          have HED := Lib.hid (blk_drew HE.out)
          have HC := (show World.rangeAt _ w.heap.size 0 (s'.vs ⟨xs.A, xs.a, xs.D, xs.d, A9, c9⟩) ∧ World.rangeAt _ wr.heap.size 0 (VE 1 [] none 0) from ⟨HF.out.st.range, HED.out.range⟩)
          refine region_wz (fun W => W.rangeAt w.heap.size 0 (s'.vs ⟨xs.A, xs.a, xs.D, xs.d, A9, c9⟩) ∧ W.rangeAt wr.heap.size 0 (VE 1 [] none 0)) (some 3) (by kernel_rfl) ?_
          apply WZ.take (i := 0) (some 93) rfl rfl (by kernel_rfl) (by kernel_rfl) (by kernel_rfl) (calm_panic _) (by kernel_rfl)
          case hy => first | (apply yieldsIf_load_mid (by kernel_rfl) _ _ rfl _ _ rfl; (case hS => (intro W hC; exact hC.1)); (case hu => exact Try.underlying51); (case hd => rfl); (case hi => kernel_rfl)) | (apply yieldsIf_load_mid (by kernel_rfl) _ _ rfl _ _ rfl; (case hS => (intro W hC; exact hC.2.1)); (case hu => exact Try.underlying51); (case hd => rfl); (case hi => kernel_rfl)) | (apply yieldsIf_load_mid (by kernel_rfl) _ _ rfl _ _ rfl; (case hS => (intro W hC; exact hC.2.2.1)); (case hu => exact Try.underlying51); (case hd => rfl); (case hi => kernel_rfl)) | (apply yieldsIf_load_mid (by kernel_rfl) _ _ rfl _ _ rfl; (case hS => (intro W hC; exact hC.2.2.2.1)); (case hu => exact Try.underlying51); (case hd => rfl); (case hi => kernel_rfl)) | (apply yieldsIf_load_mid (by kernel_rfl) _ _ rfl _ _ rfl; (case hS => (intro W hC; exact hC.2.2.2)); (case hu => exact Try.underlying51); (case hd => rfl); (case hi => kernel_rfl)) | (apply yieldsIf_load_mid (by kernel_rfl) _ _ rfl _ _ rfl; (case hS => (intro W hC; exact hC.2.2)); (case hu => exact Try.underlying51); (case hd => rfl); (case hi => kernel_rfl)) | (apply yieldsIf_load_mid (by kernel_rfl) _ _ rfl _ _ rfl; (case hS => (intro W hC; exact hC.2)); (case hu => exact Try.underlying51); (case hd => rfl); (case hi => kernel_rfl)) | (apply yieldsIf_load_mid (by kernel_rfl) _ _ rfl _ _ rfl; (case hS => (intro W hC; exact hC)); (case hu => exact Try.underlying51); (case hd => rfl); (case hi => kernel_rfl))
          case hC => exact HC
          case ha => (simp only [Act.put, List.setIfInBounds_toArray, List.set_cons_zero, List.set_cons_succ]; rfl)
          apply WZ.take (i := 1) (some 94) rfl rfl (by kernel_rfl) (by kernel_rfl) (by kernel_rfl) (calm_panic _) (by kernel_rfl)
          case hy => first | (apply yieldsIf_load_mid (by kernel_rfl) _ _ rfl _ _ rfl; (case hS => (intro W hC; exact hC.1)); (case hu => exact Try.underlying56); (case hd => rfl); (case hi => kernel_rfl)) | (apply yieldsIf_load_mid (by kernel_rfl) _ _ rfl _ _ rfl; (case hS => (intro W hC; exact hC.2.1)); (case hu => exact Try.underlying56); (case hd => rfl); (case hi => kernel_rfl)) | (apply yieldsIf_load_mid (by kernel_rfl) _ _ rfl _ _ rfl; (case hS => (intro W hC; exact hC.2.2.1)); (case hu => exact Try.underlying56); (case hd => rfl); (case hi => kernel_rfl)) | (apply yieldsIf_load_mid (by kernel_rfl) _ _ rfl _ _ rfl; (case hS => (intro W hC; exact hC.2.2.2.1)); (case hu => exact Try.underlying56); (case hd => rfl); (case hi => kernel_rfl)) | (apply yieldsIf_load_mid (by kernel_rfl) _ _ rfl _ _ rfl; (case hS => (intro W hC; exact hC.2.2.2)); (case hu => exact Try.underlying56); (case hd => rfl); (case hi => kernel_rfl)) | (apply yieldsIf_load_mid (by kernel_rfl) _ _ rfl _ _ rfl; (case hS => (intro W hC; exact hC.2.2)); (case hu => exact Try.underlying56); (case hd => rfl); (case hi => kernel_rfl)) | (apply yieldsIf_load_mid (by kernel_rfl) _ _ rfl _ _ rfl; (case hS => (intro W hC; exact hC.2)); (case hu => exact Try.underlying56); (case hd => rfl); (case hi => kernel_rfl)) | (apply yieldsIf_load_mid (by kernel_rfl) _ _ rfl _ _ rfl; (case hS => (intro W hC; exact hC)); (case hu => exact Try.underlying56); (case hd => rfl); (case hi => kernel_rfl))
          case hC => exact HC
          case ha => (simp only [Act.put, List.setIfInBounds_toArray, List.set_cons_zero, List.set_cons_succ]; rfl)
          -- 2
          refine WZ.one (i := 2) rfl (by kernel_rfl) ?_
          conv => arg 4; arg 1; whnf
          go_wp2_with ((with_reducible show wpList _ _ _ ({ dst := none, op := Op.store _ (Operand.tmp 4) _, type := _, pos := _, after := _, guard := _ } :: _) _ _); go_loud (refine wpList_store_mid rfl 51 (.tmp 4) (.tmp 93) rfl (w.heap.size + 1 + 1) 0 (Sta.vs s' ⟨xs.A, xs.a, xs.D, xs.d, A9, c9⟩).toArray rfl rfl (HF.out.a.there 5 (Nat.le_refl _)) (by kernel_rfl) (by simp [Value.oneCell', Sta.vs]) ?_); refine HF.out.a.setW (Sta.vs s' ⟨xs.A, xs.a, xs.D, xs.d, A9, c9⟩) rfl ?_; intro w21 HT21 HG21; have HE21 := Lib.hid (HF.out.e.grown HG21.out (fun e => by injection e; omega)))
          clear HC
          have HC := (show World.rangeAt w21 w.heap.size 0 (s'.vs ⟨xs.A, xs.a, xs.D, xs.d, A9, c9⟩) ∧ World.rangeAt w21 wr.heap.size 0 (VE 1 [] none 0) from ⟨(HF.out.st.grown HG21.out (fun e => by injection e; omega)).range, (HED.out.grown HG21.out (fun e => by injection e; omega)).range⟩)
          refine ⟨HC, ?_⟩
          -- 3
          refine WZ.last (i := 3) rfl (by kernel_rfl) (by kernel_rfl) ?_
          conv => arg 4; arg 1; whnf
          go_wp2_with ((with_reducible show wpList _ _ _ ({ dst := none, op := Op.store _ (Operand.tmp 5) _, type := _, pos := _, after := _, guard := _ } :: _) _ _); go_loud (refine wpList_store_mid rfl 56 (.tmp 5) (.tmp 94) rfl ((w.heap.size + 1 + 1) + 1) 0 (Eff.vs ⟨1, false, [], []⟩ none 0 none 0).toArray rfl rfl (HE21.out.there 4 (Nat.le_refl _)) (by kernel_rfl) (by simp [Value.oneCell', Eff.vs]) ?_); refine HE21.out.setW (Eff.vs ⟨1, false, [], []⟩ none 0 none 0) rfl ?_; intro w22 HE22 HG22)
          refine WZ.done (by kernel_rfl) ?_ _
          simp only [Calm, Exit.then]
          go_wp2
          (try simp only [Exit.inBlock, Exit.then])
          refine bodyPost_ret (blk_two rfl Try.underlying51 rfl Try.underlying56 rfl _ _ (w.heap.size + 1 + 1) ((w.heap.size + 1 + 1) + 1) _ _ (by kernel_rfl) (by kernel_rfl) rfl rfl (HT21.out.grown HG22.out (fun e => by injection e; omega)) HE22.out) rfl ?_
          rw [HRS.out]
          exact HF.out.out HG21.out HG22.out (by first | exact .inl rfl | exact .inr rfl)
        · have htw : twiceL c.cells = true := hb.resolve_left hz
          have hm0 : 0 < M := by rw [← hM]; exact List.length_pos_iff.2 hz
          have b0 : ((M : Int) == 0) = false := by simp only [beq_eq_false_iff_ne, ne_eq]; omega
          rw [htw] at HTW
          clear hb hz hfin hs' hL htk hM hcr htw hm0
          go_upto_region 21 with (first
            | (go_at_call 76; go_loud (refine (HTW.out _ HB.out.ri.rm.bl).mono ?_); rintro e w8 ⟨rfl, hb8⟩; have HB8 := Lib.hid (HB.out.below hb8); clear hb8; have f0 := HB8.out.ef.free 0; have d0 := HB8.out.ef.cell (j := 0) rfl)
            | ((with_reducible show wpList _ _ _ ({ dst := none, op := Op.store _ (Operand.tmp 9) _, type := _, pos := _, after := _, guard := _ } :: _) _ _); go_loud (refine wpList_store_mid rfl 56 (.tmp 9) (.tmp 50) rfl wr.heap.size 0 effz.toArray rfl rfl (there_madeB 56 wr effz 4 (Nat.le_refl _)) (by kernel_rfl) (by simp [Value.oneCell', effz]) ?_); refine Blk.madeW 56 wr effz effz rfl ?_; intro w7 HE7 HB7; have HB := Lib.hid (show RB w w7 s xs c A k D m wr.heap.size effz A6 n c6 L from ⟨HM.out.below HB7.out, HE7.out, hwr, HO.out.below HB7.out, fun b e => (Own.lt HO.out _ e).2⟩); have c37 := (HB.out.ri.cm.cell (j := 3) rfl).trans (congrArg (fun q => some (Value.slice A q k)) HM9.out); skip)
            )
          have HB1 := Lib.hid (show RB w _ s xs c A k D m wr.heap.size (VE 1 [] none 0) A6 n c6 L from HB8.out.setE 0 (.int .i64 1))
          generalize World.setCell w8 ⟨wr.heap.size, 0, none⟩ (.int .i64 1) = w11 at HB1 ⊢
          clear HB HB8
          have HB := HB1
          have HOC := Lib.hid (show OwnC w11 (wr.heap.size + 1) none 0 0 [] from OwnC.nil)
          clear HB1 f0 d0 c37
          have p1 := HB.out.ri.cm.cell (j := 1) rfl
          have p2 := HB.out.ri.cm.cell (j := 2) rfl
          have p0 := (show World.cell? w11 ⟨wr.heap.size, 0, none⟩ = some (.int .i64 1) from HB.out.ef.cell (j := 0) rfl)
          go_upto_region 22 with (at_builtin; go_loud (refine rclients_app rfl _ _ rfl (w.heap.size + 1 + 1 + 2) A6 n c6 (n + 1) L [⟨c.client, c.num, 1⟩] rfl (HB.out.ot.below (below_al _ _)) (some ⟨w11.heap.size, 0, none⟩) 1 1 rfl (rd_lit w11 106 [.int .u64 c.client, .int .u64 c.num, .int .i64 1]) rfl rfl (by omega) (by rw [World.size_alloc]; have := HB.out.ri.rm.e.lt; omega) ?_); intro A9 c9 w9 HO9 HG9; go_loud (have HM9' := Lib.hid ((HB.out.ri.below (below_al w11 (.cells #[.int .u64 c.client, .int .u64 c.num, .int .i64 1] 106))).own HG9.out (fun b e => by have := (Own.lt HB.out.ot _ e).1; omega))); have f4 := HM9'.out.rm.st.free 4; have p4 := HM9'.out.rm.st.cell (j := 4) rfl; go_loud (have HE9 := Lib.hid ((HB.out.ef.below (below_al w11 (.cells #[.int .u64 c.client, .int .u64 c.num, .int .i64 1] 106)) HB.out.ef.lt).grown HG9.out (fun e => by have := HB.out.og _ e; omega))); go_loud (have HOC9 := Lib.hid (show OwnC _ _ none _ 0 _ from Own.grown (Own.below HOC.out (below_al w11 (.cells #[.int .u64 c.client, .int .u64 c.num, .int .i64 1] 106))) HG9.out (own_apart HOC.out HB.out.og))))
          have HF := Lib.hid (batch_fin (E := 1) HM9'.out HIN.out HI.out HO9.out HOC9.out HB.out.gq HS'.out).drew
          have HE := Lib.hid (HE9.out.grown (grown_set w9 w.heap.size 4 (.slice A9 (n + 1) c9)) (fun e => by injection e; omega))
          have HED := Lib.hid (blk_drew HE.out)
          have HC := (show World.rangeAt _ w.heap.size 0 (s'.vs ⟨xs.A, xs.a, xs.D, xs.d, A9, c9⟩) ∧ World.rangeAt _ wr.heap.size 0 (VE 1 [] none 0) from ⟨HF.out.st.range, HED.out.range⟩)
          refine region_wz (fun W => W.rangeAt w.heap.size 0 (s'.vs ⟨xs.A, xs.a, xs.D, xs.d, A9, c9⟩) ∧ W.rangeAt wr.heap.size 0 (VE 1 [] none 0)) (some 3) (by kernel_rfl) ?_
          apply WZ.take (i := 0) (some 93) rfl rfl (by kernel_rfl) (by kernel_rfl) (by kernel_rfl) (calm_panic _) (by kernel_rfl)
          case hy => first | (apply yieldsIf_load_mid (by kernel_rfl) _ _ rfl _ _ rfl; (case hS => (intro W hC; exact hC.1)); (case hu => exact Try.underlying51); (case hd => rfl); (case hi => kernel_rfl)) | (apply yieldsIf_load_mid (by kernel_rfl) _ _ rfl _ _ rfl; (case hS => (intro W hC; exact hC.2.1)); (case hu => exact Try.underlying51); (case hd => rfl); (case hi => kernel_rfl)) | (apply yieldsIf_load_mid (by kernel_rfl) _ _ rfl _ _ rfl; (case hS => (intro W hC; exact hC.2.2.1)); (case hu => exact Try.underlying51); (case hd => rfl); (case hi => kernel_rfl)) | (apply yieldsIf_load_mid (by kernel_rfl) _ _ rfl _ _ rfl; (case hS => (intro W hC; exact hC.2.2.2.1)); (case hu => exact Try.underlying51); (case hd => rfl); (case hi => kernel_rfl)) | (apply yieldsIf_load_mid (by kernel_rfl) _ _ rfl _ _ rfl; (case hS => (intro W hC; exact hC.2.2.2)); (case hu => exact Try.underlying51); (case hd => rfl); (case hi => kernel_rfl)) | (apply yieldsIf_load_mid (by kernel_rfl) _ _ rfl _ _ rfl; (case hS => (intro W hC; exact hC.2.2)); (case hu => exact Try.underlying51); (case hd => rfl); (case hi => kernel_rfl)) | (apply yieldsIf_load_mid (by kernel_rfl) _ _ rfl _ _ rfl; (case hS => (intro W hC; exact hC.2)); (case hu => exact Try.underlying51); (case hd => rfl); (case hi => kernel_rfl)) | (apply yieldsIf_load_mid (by kernel_rfl) _ _ rfl _ _ rfl; (case hS => (intro W hC; exact hC)); (case hu => exact Try.underlying51); (case hd => rfl); (case hi => kernel_rfl))
          case hC => exact HC
          case ha => (simp only [Act.put, List.setIfInBounds_toArray, List.set_cons_zero, List.set_cons_succ]; rfl)
          apply WZ.take (i := 1) (some 94) rfl rfl (by kernel_rfl) (by kernel_rfl) (by kernel_rfl) (calm_panic _) (by kernel_rfl)
          case hy => first | (apply yieldsIf_load_mid (by kernel_rfl) _ _ rfl _ _ rfl; (case hS => (intro W hC; exact hC.1)); (case hu => exact Try.underlying56); (case hd => rfl); (case hi => kernel_rfl)) | (apply yieldsIf_load_mid (by kernel_rfl) _ _ rfl _ _ rfl; (case hS => (intro W hC; exact hC.2.1)); (case hu => exact Try.underlying56); (case hd => rfl); (case hi => kernel_rfl)) | (apply yieldsIf_load_mid (by kernel_rfl) _ _ rfl _ _ rfl; (case hS => (intro W hC; exact hC.2.2.1)); (case hu => exact Try.underlying56); (case hd => rfl); (case hi => kernel_rfl)) | (apply yieldsIf_load_mid (by kernel_rfl) _ _ rfl _ _ rfl; (case hS => (intro W hC; exact hC.2.2.2.1)); (case hu => exact Try.underlying56); (case hd => rfl); (case hi => kernel_rfl)) | (apply yieldsIf_load_mid (by kernel_rfl) _ _ rfl _ _ rfl; (case hS => (intro W hC; exact hC.2.2.2)); (case hu => exact Try.underlying56); (case hd => rfl); (case hi => kernel_rfl)) | (apply yieldsIf_load_mid (by kernel_rfl) _ _ rfl _ _ rfl; (case hS => (intro W hC; exact hC.2.2)); (case hu => exact Try.underlying56); (case hd => rfl); (case hi => kernel_rfl)) | (apply yieldsIf_load_mid (by kernel_rfl) _ _ rfl _ _ rfl; (case hS => (intro W hC; exact hC.2)); (case hu => exact Try.underlying56); (case hd => rfl); (case hi => kernel_rfl)) | (apply yieldsIf_load_mid (by kernel_rfl) _ _ rfl _ _ rfl; (case hS => (intro W hC; exact hC)); (case hu => exact Try.underlying56); (case hd => rfl); (case hi => kernel_rfl))
          case hC => exact HC
          case ha => (simp only [Act.put, List.setIfInBounds_toArray, List.set_cons_zero, List.set_cons_succ]; rfl)
          -- 2
          refine WZ.one (i := 2) rfl (by kernel_rfl) ?_
          conv => arg 4; arg 1; whnf
          go_wp2_with ((with_reducible show wpList _ _ _ ({ dst := none, op := Op.store _ (Operand.tmp 4) _, type := _, pos := _, after := _, guard := _ } :: _) _ _); go_loud (refine wpList_store_mid rfl 51 (.tmp 4) (.tmp 93) rfl (w.heap.size + 1 + 1) 0 (Sta.vs s' ⟨xs.A, xs.a, xs.D, xs.d, A9, c9⟩).toArray rfl rfl (HF.out.a.there 5 (Nat.le_refl _)) (by kernel_rfl) (by simp [Value.oneCell', Sta.vs]) ?_); refine HF.out.a.setW (Sta.vs s' ⟨xs.A, xs.a, xs.D, xs.d, A9, c9⟩) rfl ?_; intro w21 HT21 HG21; have HE21 := Lib.hid (HF.out.e.grown HG21.out (fun e => by injection e; omega)))
          clear HC
          have HC := (show World.rangeAt w21 w.heap.size 0 (s'.vs ⟨xs.A, xs.a, xs.D, xs.d, A9, c9⟩) ∧ World.rangeAt w21 wr.heap.size 0 (VE 1 [] none 0) from ⟨(HF.out.st.grown HG21.out (fun e => by injection e; omega)).range, (HED.out.grown HG21.out (fun e => by injection e; omega)).range⟩)
          refine ⟨HC, ?_⟩
          -- 3
          refine WZ.last (i := 3) rfl (by kernel_rfl) (by kernel_rfl) ?_
          conv => arg 4; arg 1; whnf
          go_wp2_with ((with_reducible show wpList _ _ _ ({ dst := none, op := Op.store _ (Operand.tmp 5) _, type := _, pos := _, after := _, guard := _ } :: _) _ _); go_loud (refine wpList_store_mid rfl 56 (.tmp 5) (.tmp 94) rfl ((w.heap.size + 1 + 1) + 1) 0 (Eff.vs ⟨1, false, [], []⟩ none 0 none 0).toArray rfl rfl (HE21.out.there 4 (Nat.le_refl _)) (by kernel_rfl) (by simp [Value.oneCell', Eff.vs]) ?_); refine HE21.out.setW (Eff.vs ⟨1, false, [], []⟩ none 0 none 0) rfl ?_; intro w22 HE22 HG22)
          refine WZ.done (by kernel_rfl) ?_ _
          simp only [Calm, Exit.then]
          go_wp2
          (try simp only [Exit.inBlock, Exit.then])
          refine bodyPost_ret (blk_two rfl Try.underlying51 rfl Try.underlying56 rfl _ _ (w.heap.size + 1 + 1) ((w.heap.size + 1 + 1) + 1) _ _ (by kernel_rfl) (by kernel_rfl) rfl rfl (HT21.out.grown HG22.out (fun e => by injection e; omega)) HE22.out) rfl ?_
          rw [HRS.out]
          exact HF.out.out HG21.out HG22.out (by first | exact .inl rfl | exact .inr rfl)
      · obtain ⟨s', hs'⟩ : ∃ s' : Sta, ({ s with clients := L ++ [(⟨c.client, c.num, 0⟩ : Kl)] } : Sta) = s' := ⟨_, rfl⟩
        have HS' := Lib.hid hs'
        have HRS := Lib.hid (show batchS s c = (s', ⟨0, false, c.cells.map (stamp s.index), []⟩) by rw [hfin]; simp only [if_neg hb]; rw [hs']; rfl)
        have hz : c.cells ≠ [] := fun e => hb (.inl e)
        have htw : twiceL c.cells = false := by
          cases h : twiceL c.cells with
          | false => rfl
          | true => exact absurd (.inr h) hb
        have hm0 : 0 < M := by rw [← hM]; exact List.length_pos_iff.2 hz
        have b0 : ((M : Int) == 0) = false := by simp only [beq_eq_false_iff_ne, ne_eq]; omega
        rw [htw] at HTW
        clear hb hz hfin hs' hL htk hM hcr htw hm0
        go_wp2_with (first
          | (go_at_call 76; go_loud (refine (HTW.out _ HB.out.ri.rm.bl).mono ?_); rintro e w8 ⟨rfl, hb8⟩; have HB8 := Lib.hid (HB.out.below hb8); clear hb8; skip)
          | ((with_reducible show wpList _ _ _ ({ dst := none, op := Op.store _ (Operand.tmp 9) _, type := _, pos := _, after := _, guard := _ } :: _) _ _); go_loud (refine wpList_store_mid rfl 56 (.tmp 9) (.tmp 50) rfl wr.heap.size 0 effz.toArray rfl rfl (there_madeB 56 wr effz 4 (Nat.le_refl _)) (by kernel_rfl) (by simp [Value.oneCell', effz]) ?_); refine Blk.madeW 56 wr effz effz rfl ?_; intro w7 HE7 HB7; have HB := Lib.hid (show RB w w7 s xs c A k D m wr.heap.size effz A6 n c6 L from ⟨HM.out.below HB7.out, HE7.out, hwr, HO.out.below HB7.out, fun b e => (Own.lt HO.out _ e).2⟩); have c37 := (HB.out.ri.cm.cell (j := 3) rfl).trans (congrArg (fun q => some (Value.slice A q k)) HM9.out); skip)
          )
        go_loopw [10] (fun v10 wv => ∃ (j cc : Nat) (Ac : Option Addr), v10 = .int .i64 (j : Int) ∧ j ≤ M ∧ Hid (RB w wv s xs c A k D m wr.heap.size [.int .i64 0, .bool false, .slice Ac j cc, .slice none 0 0] A6 n c6 L) ∧ Hid (OwnC wv (wr.heap.size + 1) Ac j cc ((c.cells.take j).map (stamp s.index)))) (fun v10 _ => M - (intOf v10).toNat)
        case atStart => exact ⟨0, 0, none, rfl, Nat.zero_le _, HB8, Lib.hid OwnC.nil⟩
        case round =>
          clear HB8 HB
          obtain ⟨j, cc, Ac, rfl, hj, HB, HOC⟩ := hrel
          rename World => wv
          have c38 := (HB.out.ri.cm.cell (j := 3) rfl).trans (congrArg (fun q => some (Value.slice A q k)) HM9.out)
          by_cases hjm : j < M
          · have hjl : j < c.cells.length := by rw [HM9.out]; exact hjm
            have e2 : decide ((j : Int) < (M : Int)) = true := decide_eq_true (by omega)
            have j1 : (0 : Int) ≤ (j : Int) := by omega
            have j2 : (j : Int) < (M : Int) := by omega
            have hw4 : IntKind.i64.wrap ((j : Int) + 1) = ((j + 1 : Nat) : Int) := by rw [IntWalk.i64_in _ (by omega)]; omega
            obtain ⟨b, o, hA, hb0, hcc⟩ := HCI.out.rc.at_ (vals_ne hjl)
            have hrx := Rd.enc_range Cl.vals_len hcc j hjl
            have hst := take_mapS (f := stamp s.index) hjl
            obtain ⟨x, hx⟩ : ∃ x, c.cells[j] = x := ⟨_, rfl⟩
            rw [hx] at hrx hst
            have HRX := Lib.hid (fun (W : World) (hb : Below w.heap.size w W) => rangeAt_below hrx hb hb0)
            have HST := Lib.hid hst
            rw [hA] at c38
            have HA := Lib.hid hA
            clear hA hcc hrx hx hst
            go_wp2_with (first
              | (have hgate := HB6; clear hgate; at_builtin; go_loud (refine cells_app rfl _ _ rfl (wr.heap.size + 1) Ac j cc (j + 1) ((c.cells.take j).map (stamp s.index)) [stamp s.index x] rfl (HOC6.out.below (below_al _ _)) (some ⟨w6.heap.size, 0, none⟩) 1 1 rfl (rd_lit w6 75 [.string x.row, .string x.col, .int .u64 x.ts, .int .u64 s.index, .bool x.del, .string x.val]) rfl rfl (by omega) (by rw [World.size_alloc]; have := HB6.out.ef.lt; omega) ?_); intro A8 c8 w8' HO8 HG8; go_loud (have HB8 := Lib.hid ((HB6.out.below (below_al w6 (.cells #[.string x.row, .string x.col, .int .u64 x.ts, .int .u64 s.index, .bool x.del, .string x.val] 75))).grew (OwnC.below HOC6.out (below_al w6 (.cells #[.string x.row, .string x.col, .int .u64 x.ts, .int .u64 s.index, .bool x.del, .string x.val] 75))) HG8.out)); have f2 := HB8.out.ef.free 2; have d2 := HB8.out.ef.cell (j := 2) rfl)
              | ((with_reducible show wpList _ _ _ ({ dst := some 78, op := Op.load _ _, type := _, pos := _, after := _, guard := _ } :: _) _ _); go_loud (have hx6 := HX5.out.set 3 (.int .u64 (s.index : Nat)); have hb6 := HB5'.out; have hg6 := grown_set w5 wv.heap.size 3 (.int .u64 (s.index : Nat)); have hwv := HB.out.ef.lt; have hb6' := hb6.own hg6 hwv; have ho6 := Own.grown HOC5.out hg6 (.inr (own_fresh HOC.out))); generalize World.setCell w5 ⟨wv.heap.size, 3, none⟩ (.int .u64 (s.index : Nat)) = w6 at hx6 hb6' ho6 ⊢; have HB6 := Lib.hid hb6'; have HX6 := Lib.hid hx6; have HOC6 := Lib.hid (show OwnC w6 _ _ _ _ _ from ho6); have d6 := HB6.out.ef.cell (j := 2) rfl; clear hx6 hb6 hg6 hb6' ho6; go_loud (refine wpList_load_mid rfl 75 (.tmp 11) rfl wv.heap.size 0 rfl [.string x.row, .string x.col, .int .u64 x.ts, .int .u64 s.index, .bool x.del, .string x.val] _ HX6.out.range Try.underlying75 rfl (by kernel_rfl) ?_))
              | ((with_reducible show wpList _ _ _ ({ dst := none, op := Op.store _ (Operand.tmp 11) _, type := _, pos := _, after := _, guard := _ } :: _) _ _); go_loud (refine wpList_store_mid rfl 75 (.tmp 11) (.tmp 72) rfl wv.heap.size 0 x.vals.toArray rfl rfl (there_madeB 75 wv zv 6 (Nat.le_refl _)) (by kernel_rfl) (by simp [Value.oneCell', Cl.vals]) ?_); refine Blk.madeW 75 wv zv x.vals rfl ?_; intro w5 HX5 HBL5; have HB5' := Lib.hid (HB.out.below HBL5.out); have HOC5 := Lib.hid (HOC.out.below HBL5.out); have s0 := HB5'.out.ri.rm.st.cell (j := 0) rfl; have f5 := HX5.out.free 3; have x5 := HX5.out.cell (j := 3) rfl; have d5 := HB5'.out.ef.cell (j := 2) rfl)
              | ((with_reducible show wpList _ _ _ ({ dst := some 72, op := Op.load _ _, type := _, pos := _, after := _, guard := _ } :: _) _ _); go_loud (refine wpList_load_mid rfl 75 (.tmp 71) rfl b (o + j * 6) rfl x.vals _ (HRX.out wv HB.out.ri.rm.bl) Try.underlying75 rfl (by kernel_rfl) ?_)))
            rw [← HST.out] at HO8
            have HB9 := Lib.hid (show RB w _ s xs c A k D m wr.heap.size [.int .i64 0, .bool false, .slice A8 (j + 1) c8, .slice none 0 0] A6 n c6 L from HB8.out.setE 2 (.slice A8 (j + 1) c8))
            have HO9 := Lib.hid (show OwnC (w8'.setCell ⟨wr.heap.size, 2, none⟩ (.slice A8 (j + 1) c8)) (wr.heap.size + 1) A8 (j + 1) c8 _ from Own.setCell HO8.out (own_off HO8.out (Nat.lt_succ_self _)) _)
            exact ⟨⟨j + 1, c8, A8, by first | rfl | go_num, by omega, HB9, HO9⟩, by simp [intOf]; omega⟩
          · have e2 : decide ((j : Int) < (M : Int)) = false := decide_eq_false (by omega)
            have hjM : j = M := by omega
            subst hjM
            go_upto_region 21 with fail
            have htk : c.cells.take j = c.cells := List.take_of_length_le (by rw [HM9.out]; exact Nat.le_refl _)
            rw [htk] at HOC
            have hve : [Value.int .i64 0, .bool false, .slice Ac j cc, .slice none 0 0] = VE 0 (c.cells.map (stamp s.index)) Ac cc := by
              simp [VE, Eff.vs, HM9.out]
            rw [hve] at HB
            clear hve htk
            have p1 := HB.out.ri.cm.cell (j := 1) rfl
            have p2 := HB.out.ri.cm.cell (j := 2) rfl
            have p0 := (show World.cell? wv ⟨wr.heap.size, 0, none⟩ = some (.int .i64 0) from HB.out.ef.cell (j := 0) rfl)
            go_upto_region 22 with (at_builtin; go_loud (refine rclients_app rfl _ _ rfl (w.heap.size + 1 + 1 + 2) A6 n c6 (n + 1) L [⟨c.client, c.num, 0⟩] rfl (HB.out.ot.below (below_al _ _)) (some ⟨wv.heap.size, 0, none⟩) 1 1 rfl (rd_lit wv 106 [.int .u64 c.client, .int .u64 c.num, .int .i64 0]) rfl rfl (by omega) (by rw [World.size_alloc]; have := HB.out.ri.rm.e.lt; omega) ?_); intro A9 c9 w9 HO9 HG9; go_loud (have HM9' := Lib.hid ((HB.out.ri.below (below_al wv (.cells #[.int .u64 c.client, .int .u64 c.num, .int .i64 0] 106))).own HG9.out (fun b e => by have := (Own.lt HB.out.ot _ e).1; omega))); have f4 := HM9'.out.rm.st.free 4; have p4 := HM9'.out.rm.st.cell (j := 4) rfl; go_loud (have HE9 := Lib.hid ((HB.out.ef.below (below_al wv (.cells #[.int .u64 c.client, .int .u64 c.num, .int .i64 0] 106)) HB.out.ef.lt).grown HG9.out (fun e => by have := HB.out.og _ e; omega))); go_loud (have HOC9 := Lib.hid (show OwnC _ _ Ac _ cc _ from Own.grown (Own.below HOC.out (below_al wv (.cells #[.int .u64 c.client, .int .u64 c.num, .int .i64 0] 106))) HG9.out (own_apart HOC.out HB.out.og))))
            have HF := Lib.hid (batch_fin (E := 0) HM9'.out HIN.out HI.out HO9.out HOC9.out HB.out.gq HS'.out).drew
            have HE := Lib.hid (HE9.out.grown (grown_set w9 w.heap.size 4 (.slice A9 (n + 1) c9)) (fun e => by injection e; omega))
            have HED := Lib.hid (blk_drew HE.out)
            have HC := (show World.rangeAt _ w.heap.size 0 (s'.vs ⟨xs.A, xs.a, xs.D, xs.d, A9, c9⟩) ∧ World.rangeAt _ wr.heap.size 0 (VE 0 (c.cells.map (stamp s.index)) Ac cc) from ⟨HF.out.st.range, HED.out.range⟩)
            refine region_wz (fun W => W.rangeAt w.heap.size 0 (s'.vs ⟨xs.A, xs.a, xs.D, xs.d, A9, c9⟩) ∧ W.rangeAt wr.heap.size 0 (VE 0 (c.cells.map (stamp s.index)) Ac cc)) (some 3) (by kernel_rfl) ?_
            apply WZ.take (i := 0) (some 93) rfl rfl (by kernel_rfl) (by kernel_rfl) (by kernel_rfl) (calm_panic _) (by kernel_rfl)
            case hy => first | (apply yieldsIf_load_mid (by kernel_rfl) _ _ rfl _ _ rfl; (case hS => (intro W hC; exact hC.1)); (case hu => exact Try.underlying51); (case hd => rfl); (case hi => kernel_rfl)) | (apply yieldsIf_load_mid (by kernel_rfl) _ _ rfl _ _ rfl; (case hS => (intro W hC; exact hC.2.1)); (case hu => exact Try.underlying51); (case hd => rfl); (case hi => kernel_rfl)) | (apply yieldsIf_load_mid (by kernel_rfl) _ _ rfl _ _ rfl; (case hS => (intro W hC; exact hC.2.2.1)); (case hu => exact Try.underlying51); (case hd => rfl); (case hi => kernel_rfl)) | (apply yieldsIf_load_mid (by kernel_rfl) _ _ rfl _ _ rfl; (case hS => (intro W hC; exact hC.2.2.2.1)); (case hu => exact Try.underlying51); (case hd => rfl); (case hi => kernel_rfl)) | (apply yieldsIf_load_mid (by kernel_rfl) _ _ rfl _ _ rfl; (case hS => (intro W hC; exact hC.2.2.2)); (case hu => exact Try.underlying51); (case hd => rfl); (case hi => kernel_rfl)) | (apply yieldsIf_load_mid (by kernel_rfl) _ _ rfl _ _ rfl; (case hS => (intro W hC; exact hC.2.2)); (case hu => exact Try.underlying51); (case hd => rfl); (case hi => kernel_rfl)) | (apply yieldsIf_load_mid (by kernel_rfl) _ _ rfl _ _ rfl; (case hS => (intro W hC; exact hC.2)); (case hu => exact Try.underlying51); (case hd => rfl); (case hi => kernel_rfl)) | (apply yieldsIf_load_mid (by kernel_rfl) _ _ rfl _ _ rfl; (case hS => (intro W hC; exact hC)); (case hu => exact Try.underlying51); (case hd => rfl); (case hi => kernel_rfl))
            case hC => exact HC
            case ha => (simp only [Act.put, List.setIfInBounds_toArray, List.set_cons_zero, List.set_cons_succ]; rfl)
            apply WZ.take (i := 1) (some 94) rfl rfl (by kernel_rfl) (by kernel_rfl) (by kernel_rfl) (calm_panic _) (by kernel_rfl)
            case hy => first | (apply yieldsIf_load_mid (by kernel_rfl) _ _ rfl _ _ rfl; (case hS => (intro W hC; exact hC.1)); (case hu => exact Try.underlying56); (case hd => rfl); (case hi => kernel_rfl)) | (apply yieldsIf_load_mid (by kernel_rfl) _ _ rfl _ _ rfl; (case hS => (intro W hC; exact hC.2.1)); (case hu => exact Try.underlying56); (case hd => rfl); (case hi => kernel_rfl)) | (apply yieldsIf_load_mid (by kernel_rfl) _ _ rfl _ _ rfl; (case hS => (intro W hC; exact hC.2.2.1)); (case hu => exact Try.underlying56); (case hd => rfl); (case hi => kernel_rfl)) | (apply yieldsIf_load_mid (by kernel_rfl) _ _ rfl _ _ rfl; (case hS => (intro W hC; exact hC.2.2.2.1)); (case hu => exact Try.underlying56); (case hd => rfl); (case hi => kernel_rfl)) | (apply yieldsIf_load_mid (by kernel_rfl) _ _ rfl _ _ rfl; (case hS => (intro W hC; exact hC.2.2.2)); (case hu => exact Try.underlying56); (case hd => rfl); (case hi => kernel_rfl)) | (apply yieldsIf_load_mid (by kernel_rfl) _ _ rfl _ _ rfl; (case hS => (intro W hC; exact hC.2.2)); (case hu => exact Try.underlying56); (case hd => rfl); (case hi => kernel_rfl)) | (apply yieldsIf_load_mid (by kernel_rfl) _ _ rfl _ _ rfl; (case hS => (intro W hC; exact hC.2)); (case hu => exact Try.underlying56); (case hd => rfl); (case hi => kernel_rfl)) | (apply yieldsIf_load_mid (by kernel_rfl) _ _ rfl _ _ rfl; (case hS => (intro W hC; exact hC)); (case hu => exact Try.underlying56); (case hd => rfl); (case hi => kernel_rfl))
            case hC => exact HC
            case ha => (simp only [Act.put, List.setIfInBounds_toArray, List.set_cons_zero, List.set_cons_succ]; rfl)
            -- 2
            refine WZ.one (i := 2) rfl (by kernel_rfl) ?_
            conv => arg 4; arg 1; whnf
            go_wp2_with ((with_reducible show wpList _ _ _ ({ dst := none, op := Op.store _ (Operand.tmp 4) _, type := _, pos := _, after := _, guard := _ } :: _) _ _); go_loud (refine wpList_store_mid rfl 51 (.tmp 4) (.tmp 93) rfl (w.heap.size + 1 + 1) 0 (Sta.vs s' ⟨xs.A, xs.a, xs.D, xs.d, A9, c9⟩).toArray rfl rfl (HF.out.a.there 5 (Nat.le_refl _)) (by kernel_rfl) (by simp [Value.oneCell', Sta.vs]) ?_); refine HF.out.a.setW (Sta.vs s' ⟨xs.A, xs.a, xs.D, xs.d, A9, c9⟩) rfl ?_; intro w21 HT21 HG21; have HE21 := Lib.hid (HF.out.e.grown HG21.out (fun e => by injection e; omega)))
            clear HC
            have HC := (show World.rangeAt w21 w.heap.size 0 (s'.vs ⟨xs.A, xs.a, xs.D, xs.d, A9, c9⟩) ∧ World.rangeAt w21 wr.heap.size 0 (VE 0 (c.cells.map (stamp s.index)) Ac cc) from ⟨(HF.out.st.grown HG21.out (fun e => by injection e; omega)).range, (HED.out.grown HG21.out (fun e => by injection e; omega)).range⟩)
            refine ⟨HC, ?_⟩
            -- 3
            refine WZ.last (i := 3) rfl (by kernel_rfl) (by kernel_rfl) ?_
            conv => arg 4; arg 1; whnf
            go_wp2_with ((with_reducible show wpList _ _ _ ({ dst := none, op := Op.store _ (Operand.tmp 5) _, type := _, pos := _, after := _, guard := _ } :: _) _ _); go_loud (refine wpList_store_mid rfl 56 (.tmp 5) (.tmp 94) rfl ((w.heap.size + 1 + 1) + 1) 0 (Eff.vs ⟨0, false, (c.cells.map (stamp s.index)), []⟩ Ac cc none 0).toArray rfl rfl (HE21.out.there 4 (Nat.le_refl _)) (by kernel_rfl) (by simp [Value.oneCell', Eff.vs]) ?_); refine HE21.out.setW (Eff.vs ⟨0, false, (c.cells.map (stamp s.index)), []⟩ Ac cc none 0) rfl ?_; intro w22 HE22 HG22)
            refine WZ.done (by kernel_rfl) ?_ _
            simp only [Calm, Exit.then]
            go_wp2
            (try simp only [Exit.inBlock, Exit.then])
            refine bodyPost_ret (blk_two rfl Try.underlying51 rfl Try.underlying56 rfl _ _ (w.heap.size + 1 + 1) ((w.heap.size + 1 + 1) + 1) _ _ (by kernel_rfl) (by kernel_rfl) rfl rfl (HT21.out.grown HG22.out (fun e => by injection e; omega)) HE22.out) rfl ?_
            rw [HRS.out]
            exact HF.out.out HG21.out HG22.out (by first | exact .inl rfl | exact .inr rfl)
end Go.Proofs.Ytiiogdgnccgehaa
