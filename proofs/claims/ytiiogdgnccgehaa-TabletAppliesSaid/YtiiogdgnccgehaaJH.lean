/-
  Pieces of (*tablet.State).batch: the closure; one field of a struct in a row stored anew; sequences set one by one. The walk of (*tablet.State).batch. The walk of (*tablet.State).batch, at a batch that is new. The walk of (*tablet.State).batch, at a later batch of a client that is known; it is bad. No conditions.
-/
import Derived.Test.YtiiogdgnccgehaaSplit19
namespace Go.Proofs.Ytiiogdgnccgehaa
open Go.RowKit
attribute [local go_sem ↓] Go.wp_at_zero Go.wp_at_succ

section
variable {α : Type} {enc : α → List Value} {k : Nat} {w w' : World} {g : Nat} {e : TypeId} {S : Nat} {l : List α}
theorem Arr.setField (h : Arr enc k w g e S l) (hk : ∀ x, (enc x).length = k) {i j : Nat} (hi : i < l.length) (hj : j < k) (v : Value) (y : α) (hy : enc y = (enc l[i]).set j v) :
    Arr enc k (w.setCell ⟨g, i * k + j, none⟩ v) g e S (l.set i y) := by
  obtain ⟨cur, hc, hs⟩ := h.cur
  have hb : (w.setCell ⟨g, i * k + j, none⟩ v).heap[g]? = some (.cells (cur.setIfInBounds (i * k + j) v) e (0, 0)) := heap_setCell_same w g (i * k + j) cur e v hc
  have hin : i * k + j < cur.size := by
    have h1 := mul_le_of (k := k) hi
    have h2 := h.len
    omega
  refine ⟨⟨_, hb, by simpa using hs⟩, by rw [List.length_set]; exact h.len, fun p hp t u hu => ?_⟩
  rw [List.length_set] at hp
  rw [cell_of_row _ g _ _ e (0, 0) hb, Array.getElem?_setIfInBounds]
  have hold : ∀ u', (enc l[p])[t]? = some u' → cur[p * k + t]? = some u' := fun u' hu' => by
    have := h.at_ p hp t u' hu'
    rw [cell_of_row w g _ _ e (0, 0) hc] at this
    exact this
  have ht : t < k := by
    have := (List.getElem?_eq_some_iff.1 hu).1
    rw [hk] at this
    exact this
  by_cases hpi : p = i
  · subst hpi
    rw [List.getElem_set_self] at hu
    rw [hy, List.getElem?_set] at hu
    by_cases htj : t = j
    · subst htj
      rw [if_pos rfl, if_pos (by rw [hk]; exact hj)] at hu
      rw [if_pos rfl, if_pos hin]
      exact hu
    · rw [if_neg (fun h => htj h.symm)] at hu
      rw [if_neg (by omega)]
      exact hold u hu
  · rw [List.getElem_set_ne (fun h => hpi h.symm)] at hu
    have hne : i * k + j ≠ p * k + t := by
      rcases Nat.lt_or_ge p i with h1 | h1
      · have := mul_le_of (k := k) h1
        omega
      · have := mul_le_of (k := k) (show i < p by omega)
        omega
    rw [if_neg hne]
    exact hold u hu
end
/-- the first i cells have the sequence q -/
def seqTo (q : Nat) (l : List Cl) (i : Nat) : List Cl := (l.take i).map (fun x => { x with seq := q }) ++ l.drop i
theorem seqTo_zero (q : Nat) (l : List Cl) : seqTo q l 0 = l := by simp [seqTo]
theorem seqTo_all (q : Nat) (l : List Cl) : seqTo q l l.length = l.map fun x => { x with seq := q } := by simp [seqTo]
theorem seqTo_len (q : Nat) (l : List Cl) (i : Nat) : (seqTo q l i).length = l.length := by
  simp [seqTo]
  omega
theorem seqTo_at (q : Nat) (l : List Cl) (i : Nat) (h : i < l.length) : (seqTo q l i)[i]'(by rw [seqTo_len]; exact h) = l[i] := by
  unfold seqTo
  rw [List.getElem_append_right (by simp; omega)]
  simp only [List.length_map, List.length_take, List.getElem_drop]
  congr 1
  omega
theorem seqTo_next (q : Nat) (l : List Cl) (i : Nat) (h : i < l.length) : (seqTo q l i).set i { l[i] with seq := q } = seqTo q l (i + 1) := by
  unfold seqTo
  have hl : ((l.take i).map fun x : Cl => { x with seq := q }).length = i := by simp; omega
  rw [List.set_append_right _ _ (by omega), hl, Nat.sub_self, List.drop_eq_getElem_cons h, List.set_cons_zero, List.take_succ_eq_append_getElem h, List.map_append, List.append_assoc]
  rfl
set_option maxHeartbeats 1000000 in
theorem klId_any (j : Kl) (g id : Nat) (w : World) (hc : w.cell? ⟨g, 1, none⟩ = some (.int .u64 id)) (hg : g < w.heap.size) :
    Calls Try.prog 67 (#[.agg j.vs.toArray] ++ #[.pointer (some ⟨g, 0, none⟩)]) w fun e w' => e = .returned (.bool (isKl id j)) ∧ Below w.heap.size w w' := by
  have hc2 : ∀ o : Obj, (w.alloc o).cell? ⟨g, 1, none⟩ = some (.int .u64 id) := fun o => (World.cell?_alloc_lt w o ⟨g, 1, none⟩ hg).trans hc
  have he := ofnat_beq j.id id
  unfold isKl
  obtain ⟨i, s, q⟩ := j
  simp only at he
  show Calls Try.prog _ #[.agg #[.int .u64 i, .int .u64 s, .int .i64 q], .pointer (some ⟨g, 0, none⟩)] w _
  go_enter Try.func67, Try.ntmps67
  go_wp2
  go_ret
  exact ⟨rfl, below_al w _⟩
end Go.Proofs.Ytiiogdgnccgehaa
namespace Go.Proofs.Ytiiogdgnccgehaa
open Go.RowKit
attribute [local go_sem ↓] Go.wp_at_zero Go.wp_at_succ

theorem IM.client {w W : World} {g : Nat} {c : Cmd} {A : Option Addr} {k : Nat} {D : Option Addr} {m : Nat} {s : Sta} {xs : SA} (h : IM w W g c A k D m s xs) (hl : s.clients.length ≤ 1000) :
    Calls Try.prog 66 #[.slice xs.F s.clients.length xs.f, .func (.func 67) #[] #[.pointer (some ⟨w.heap.size, 0, none⟩)]] W fun e w' => e = .returned (.int .i64 (idx (isKl c.client) s.clients)) ∧ Below W.heap.size W w' :=
  indexClients_any 67 #[.pointer (some ⟨w.heap.size, 0, none⟩)] (isKl c.client) W (fun args W => by kernel_rfl) (fun y W1 hb => klId_any y _ c.client W1 ((h.cm.below hb h.cm.lt).cell (j := 1) rfl) (h.cm.below hb h.cm.lt).lt) xs.F xs.f s.clients h.sta.rc (by unfold maxLen; omega)
set_option maxRecDepth 100000 in
set_option maxHeartbeats 8000000 in
theorem batch_old (w : World) (g : Nat) (c : Cmd) (A : Option Addr) (k : Nat) (D : Option Addr) (m : Nat) (s : Sta) (xs : SA) (hs : Blk 47 w g (s.vs xs)) (hin : StaIn w w.heap.size s xs) (hcll : s.clients.length ≤ 1000)
    (q : Nat) (hq : q < s.clients.length) (hix : idx (isKl c.client) s.clients = (q : Int)) (hle : c.num ≤ s.clients[q].num) (hfd : s.clients.find? (isKl c.client) = some s.clients[q]) :
    Calls Try.prog 44 #[.pointer (some ⟨g, 0, none⟩), .agg (c.vs A k D m).toArray] w (MOut w g xs D (batchS s c)) := by
  have hm0 := IM.start (c := c) (A := A) (k := k) (D := D) (m := m) w hs hin
  have HIX := Lib.hid hix
  have HM := Lib.hid hm0
  obtain ⟨y, hy⟩ : ∃ y, s.clients[q] = y := ⟨_, rfl⟩
  obtain ⟨b, o, hF, hb0, hcl⟩ := hin.rc.at_ (kls_ne hq)
  have r1 := Rd.enc_range Kl.vs_len hcl q hq
  rw [hy] at r1
  have R1 := Lib.hid r1
  have HB0 := Lib.hid hb0
  have HF := Lib.hid hF
  clear hcl r1 hb0
  rw [hy] at hle hfd
  have HFD := Lib.hid hfd
  unfold effz Cmd.vs at HM
  unfold Cmd.vs
  have k0 : (0 : Int) ≤ (q : Int) := by omega
  have k1 : decide ((0 : Int) ≤ (q : Int)) = true := decide_eq_true k0
  have k2 : (q : Int) < (s.clients.length : Int) := by omega
  clear hs hin hm0 hfd hix hy hF
  by_cases hnum : c.num = y.num
  · have HRS := Lib.hid (show batchS s c = (s, ⟨y.e, true, [], []⟩) by unfold batchS; rw [HFD.out]; exact if_pos hnum)
    have k3 : ((c.num : Int) == (y.num : Int)) = true := by rw [hnum]; exact beq_self_eq_true _
    clear hnum hle
    go_enter Try.func44, Try.ntmps44
    have c4 := HM.out.st.cell (j := 4) rfl
    go_wp2_with (first
      | (go_at_call 66; go_loud (refine (IM.client HM.out hcll).mono ?_); rw [HIX.out]; rintro e w2 ⟨rfl, hb⟩; have HM0 := HM; clear HM; have HM := Lib.hid (HM0.out.below hb); clear HM0 hb c4; have c4 := HM.out.st.cell (j := 4) rfl; have q2 := HM.out.cm.cell (j := 2) rfl; have HR1 := Lib.hid (rangeAt_below R1.out HM.out.bl HB0.out); (try rw [HF.out] at c4))
      | (show wpList _ _ _ ({ dst := some 23, op := Op.load _ _, type := _, pos := _, after := _, guard := _ } :: _) _ _; go_loud (refine wpList_load_mid rfl 107 (.tmp 22) rfl b (o + q * 3) rfl y.vs _ HR1.out Try.underlying107 rfl (by kernel_rfl) ?_))
      | (show wpList _ _ _ ({ dst := none, op := Op.store _ (Operand.tmp 6) _, type := _, pos := _, after := _, guard := _ } :: _) _ _; have hn := HM.out.new 107 [.int .u64 0, .int .u64 0, .int .i64 0]; refine wpList_store_mid rfl 107 (.tmp 6) (.tmp 23) rfl _ 0 y.vs.toArray rfl rfl (hn.2.1.there 3 (Nat.le_refl _)) (by kernel_rfl) (by simp [Value.oneCell', Kl.vs]) ?_; generalize hw9 : World.setCells _ _ 0 _ = w9; have hn2 := hn.1.setE hn.2 y.vs rfl hw9; clear hn HM hw9 c4 q2; have HM := Lib.hid hn2.1; have HJ := Lib.hid hn2.2; clear hn2; have j1 := HJ.out.1.cell (j := 1) rfl; have j2 := HJ.out.1.cell (j := 2) rfl; have q2 := HM.out.cm.cell (j := 2) rfl)
      | (show wpList _ _ _ ({ dst := none, op := Op.store _ (Operand.tmp 4) _, type := _, pos := _, after := _, guard := _ } :: _) _ _; refine wpList_store_mid rfl 53 (.tmp 4) (.tmp 32) rfl (w.heap.size + 1) 0 #[.int .i64 y.e, .bool true, .slice none 0 0, .slice none 0 0] rfl rfl (HM.out.ef.there 4 (Nat.le_refl _)) (by kernel_rfl) (by simp [Value.oneCell']) ?_; refine HM.out.ef.setW [.int .i64 y.e, .bool true, .slice none 0 0, .slice none 0 0] rfl ?_; intro w10 HZ10 HG10))
    (try simp only [Exit.inBlock, Exit.then])
    refine bodyPost_ret (results_cell_row rfl _ _ (w.heap.size + 1) _ _ _ _ rfl HZ10.out Try.underlying53 rfl (by kernel_rfl)) rfl ?_
    exact HM.out.out HG10.out HRS.out
  · have HRS := Lib.hid (show batchS s c = (s, ⟨4, false, [], []⟩) by unfold batchS; rw [HFD.out]; simp only; rw [if_neg hnum, if_pos (by omega)]; rfl)
    have k3 : ((c.num : Int) == (y.num : Int)) = false := by rw [beq_eq_false_iff_ne]; omega
    have k4 : decide (c.num < y.num) = true := decide_eq_true (by omega)
    clear hnum hle
    go_enter Try.func44, Try.ntmps44
    have c4 := HM.out.st.cell (j := 4) rfl
    go_wp2_with (first
      | (go_at_call 66; go_loud (refine (IM.client HM.out hcll).mono ?_); rw [HIX.out]; rintro e w2 ⟨rfl, hb⟩; have HM0 := HM; clear HM; have HM := Lib.hid (HM0.out.below hb); clear HM0 hb c4; have c4 := HM.out.st.cell (j := 4) rfl; have q2 := HM.out.cm.cell (j := 2) rfl; have HR1 := Lib.hid (rangeAt_below R1.out HM.out.bl HB0.out); (try rw [HF.out] at c4))
      | (show wpList _ _ _ ({ dst := some 23, op := Op.load _ _, type := _, pos := _, after := _, guard := _ } :: _) _ _; go_loud (refine wpList_load_mid rfl 107 (.tmp 22) rfl b (o + q * 3) rfl y.vs _ HR1.out Try.underlying107 rfl (by kernel_rfl) ?_))
      | (show wpList _ _ _ ({ dst := none, op := Op.store _ (Operand.tmp 6) _, type := _, pos := _, after := _, guard := _ } :: _) _ _; have hn := HM.out.new 107 [.int .u64 0, .int .u64 0, .int .i64 0]; refine wpList_store_mid rfl 107 (.tmp 6) (.tmp 23) rfl _ 0 y.vs.toArray rfl rfl (hn.2.1.there 3 (Nat.le_refl _)) (by kernel_rfl) (by simp [Value.oneCell', Kl.vs]) ?_; generalize hw9 : World.setCells _ _ 0 _ = w9; have hn2 := hn.1.setE hn.2 y.vs rfl hw9; clear hn HM hw9 c4 q2; have HM := Lib.hid hn2.1; have HJ := Lib.hid hn2.2; clear hn2; have j1 := HJ.out.1.cell (j := 1) rfl; have j2 := HJ.out.1.cell (j := 2) rfl; have q2 := HM.out.cm.cell (j := 2) rfl)
      | (show wpList _ _ _ ({ dst := none, op := Op.store _ (Operand.tmp 4) _, type := _, pos := _, after := _, guard := _ } :: _) _ _; refine wpList_store_mid rfl 53 (.tmp 4) (.tmp 39) rfl (w.heap.size + 1) 0 #[.int .i64 4, .bool false, .slice none 0 0, .slice none 0 0] rfl rfl (HM.out.ef.there 4 (Nat.le_refl _)) (by kernel_rfl) (by simp [Value.oneCell']) ?_; refine HM.out.ef.setW [.int .i64 4, .bool false, .slice none 0 0, .slice none 0 0] rfl ?_; intro w10 HZ10 HG10))
    (try simp only [Exit.inBlock, Exit.then])
    refine bodyPost_ret (results_cell_row rfl _ _ (w.heap.size + 1) _ _ _ _ rfl HZ10.out Try.underlying53 rfl (by kernel_rfl)) rfl ?_
    exact HM.out.out HG10.out HRS.out
end Go.Proofs.Ytiiogdgnccgehaa
namespace Go.Proofs.Ytiiogdgnccgehaa
open Go.RowKit
attribute [local go_sem ↓] Go.wp_at_zero Go.wp_at_succ

/-- inside a method: as IM, with any effect so far -/
structure IN (w W : World) (g : Nat) (c : Cmd) (A : Option Addr) (k : Nat) (D : Option Addr) (m : Nat) (s : Sta) (xs : SA) (ev : List Value) : Prop where
  bl : Below w.heap.size w W
  st : Blk 47 W g (s.vs xs)
  cm : Blk 27 W w.heap.size (c.vs A k D m)
  ef : Blk 53 W (w.heap.size + 1) ev
  lt : g < w.heap.size
  sin : StaIn w w.heap.size s xs
section
variable {w W W' : World} {g : Nat} {c : Cmd} {A : Option Addr} {k : Nat} {D : Option Addr} {m : Nat} {s : Sta} {xs : SA} {ev : List Value}
theorem IM.toN (h : IM w W g c A k D m s xs) : IN w W g c A k D m s xs effz := ⟨h.bl, h.st, h.cm, h.ef, h.lt, h.sin⟩
theorem IN.below (h : IN w W g c A k D m s xs ev) (hb : Below W.heap.size W W') : IN w W' g c A k D m s xs ev :=
  ⟨h.bl.trans (hb.mono h.bl.size), h.st.below hb h.st.lt, h.cm.below hb h.cm.lt, h.ef.below hb h.ef.lt, h.lt, h.sin⟩
theorem IN.own (h : IN w W g c A k D m s xs ev) {row : Option Nat} (hg : W.grownBy W' row) (hq : ∀ q, row = some q → w.heap.size + 1 < q) : IN w W' g c A k D m s xs ev :=
  ⟨h.bl.grown hg h.bl.size (fun q e => by have := hq q e; omega), h.st.grown hg (fun e => by have := hq _ e; have := h.lt; omega), h.cm.grown hg (fun e => by have := hq _ e; omega), h.ef.grown hg (fun e => by have := hq _ e; omega), h.lt, h.sin⟩
theorem IN.setE (h : IN w W g c A k D m s xs ev) (j : Nat) (v : Value) : IN w (W.setCell ⟨w.heap.size + 1, j, none⟩ v) g c A k D m s xs (ev.set j v) :=
  have hg := grown_set W (w.heap.size + 1) j v
  ⟨below_grown h.bl h.bl.size hg (by omega), h.st.grown hg (fun e => by injection e; have := h.lt; omega), h.cm.grown hg (fun e => by injection e; omega), h.ef.set j v, h.lt, h.sin⟩
theorem IN.sta (h : IN w W g c A k D m s xs ev) : StaIn W W.heap.size s xs := h.sin.grown h.bl
/-- what a new batch leaves -/
theorem new_out {A6 : Option Addr} {c6 n : Nat} {l : List Kl} {r : Sta × Eff} {E : Int} {B : Option Addr} {b : Nat} {L : List Cl} {N : Nat} (h : IN w W g c A k D m s xs [.int .i64 E, .bool false, .slice B N b, .slice none 0 0]) (ho : OwnK W (w.heap.size + 1 + 1) A6 n c6 l) (hoff : Off w xs g)
    (hcl : OwnC W (w.heap.size + 1 + 1) B N b L)
    (hg : (W.setCell ⟨g, 4, none⟩ (.slice A6 n c6)).grownBy W' (some (w.heap.size + 1))) (hr : r = ({ s with clients := l }, ⟨E, false, L, []⟩)) :
    MOut w g xs D r (.returned (.agg #[.int .i64 E, .bool false, .slice B N b, .slice none 0 0])) W' := by
  have hn := ho.len
  have hnl := hcl.len
  subst hr hn hnl
  have h1 := grown_set W g 4 (.slice A6 l.length c6)
  have hlt := h.lt
  have hst := (h.st.set 4 (.slice A6 l.length c6)).grown hg (fun e => by injection e; omega)
  have hj := Own.grown (Own.grown ho h1 (.inr (own_off ho (by omega)))) hg (.inr (own_off ho (by omega)))
  have hc2 := Own.grown (Own.grown hcl h1 (.inr (own_off hcl (by omega)))) hg (.inr (own_off hcl (by omega)))
  exact ⟨⟨xs.A, xs.a, xs.D, xs.d, A6, c6⟩, B, b, none, 0, rfl, hst, ⟨rd_mix h.sin.rb hoff.A h.bl h1 hg, rd_mix h.sin.rj hoff.D h.bl h1 hg, Own.rd hj (by omega)⟩, ⟨From.refl _ _ _, From.refl _ _ _, From.new (fun b hb => by have := Own.lt ho _ hb; have := h1.size; have := hg.size; omega)⟩, ⟨Own.lower hc2 (by omega), Rd.nil⟩, .inl rfl, grown_mix h.bl h1 hg, fun q hq => ⟨fun e => by have := hoff.lA q e; have := (Own.lt hcl q hq).1; omega, fun e => by have := hoff.lD q e; have := (Own.lt hcl q hq).1; omega, own_types hcl ho (by decide) q hq⟩⟩
end
set_option maxRecDepth 100000 in
set_option maxHeartbeats 8000000 in
theorem batch_fresh_bad (w : World) (g : Nat) (c : Cmd) (A : Option Addr) (k : Nat) (D : Option Addr) (m : Nat) (s : Sta) (xs : SA) (hs : Blk 47 w g (s.vs xs)) (hin : StaIn w w.heap.size s xs) (hc : CmdIn w w.heap.size c A k D m) (hoff : Off w xs g) (hcll : s.clients.length ≤ 1000)
    (hix : idx (isKl c.client) s.clients = -1) (hbad : c.cells = [] ∨ twiceL c.cells = true) (hr : batchS s c = ({ s with clients := s.clients ++ [⟨c.client, c.num, 1⟩] }, ⟨1, false, [], []⟩)) :
    Calls Try.prog 44 #[.pointer (some ⟨g, 0, none⟩), .agg (c.vs A k D m).toArray] w (MOut w g xs D (batchS s c)) := by
  have hm0 := IM.start (c := c) (A := A) (k := k) (D := D) (m := m) w hs hin
  have HIX := Lib.hid hix
  have HM := Lib.hid hm0
  have HRS := Lib.hid hr
  have HO := Lib.hid hoff
  unfold effz Cmd.vs at HM
  unfold Cmd.vs
  clear hs hin hm0 hix hr hoff
  by_cases hnil : c.cells = []
  · have k2 : ((c.cells.length : Int) == 0) = true := by rw [hnil]; rfl
    clear hnil hbad
    go_enter Try.func44, Try.ntmps44
    have c4 := HM.out.st.cell (j := 4) rfl
    go_wp2_with (first
      | (go_at_call 66; go_loud (refine (IM.client HM.out hcll).mono ?_); rw [HIX.out]; rintro e w2 ⟨rfl, hb⟩; have HN := Lib.hid (HM.out.below hb).toN; have q3 := HN.out.cm.cell (j := 3) rfl; have e0 := HN.out.ef.cell (j := 0) rfl; have g0 := HN.out.ef.free 0; have HN1 := Lib.hid (HN.out.setE 0 (.int .i64 1)); have c4' := HN1.out.st.cell (j := 4) rfl; clear hb)
      | (go_at_call 70; go_loud (refine (cloneClients_any xs.F xs.f s.clients _ HN1.out.sta.rc (by omega)).mono ?_); rintro e w3 ⟨A5, c5, rfl, ho, hb⟩; have HOK := Lib.hid (show OwnK _ _ _ _ _ _ from Own.lower ho (Nat.succ_le_of_lt HN1.out.ef.lt)); have HN2 := Lib.hid (HN1.out.below hb); have q1 := HN2.out.cm.cell (j := 1) rfl; have q2 := HN2.out.cm.cell (j := 2) rfl; have r0 := HN2.out.ef.cell (j := 0) rfl; clear hb ho)
      | (at_builtin; go_loud (refine clients_app rfl _ _ rfl (w.heap.size + 1 + 1) A5 s.clients.length c5 (s.clients.length + 1) s.clients [⟨c.client, c.num, 1⟩] rfl (OwnK.below HOK.out (below_al w3 (.cells #[.int .u64 c.client, .int .u64 c.num, .int .i64 1] 107))) (some ⟨w3.heap.size, 0, none⟩) 1 1 rfl (Rd.ofBlock (heap_alloc_new w3 (.cells #[.int .u64 c.client, .int .u64 c.num, .int .i64 1] 107)) (xs := kls [⟨c.client, c.num, 1⟩]) rfl) rfl rfl (by omega) (by rw [World.size_alloc]; have := HN2.out.ef.lt; omega) ?_); intro A6 c6 w6 HO6 HG6; go_loud (have HN3 := Lib.hid ((HN2.out.below (below_al w3 (.cells #[.int .u64 c.client, .int .u64 c.num, .int .i64 1] 107))).own HG6.out (fun q e => by have := (Own.lt HOK.out _ e).1; omega))); have g4 := HN3.out.st.cell (j := 4) rfl; have f4 := HN3.out.st.free 4; have HEF := Lib.hid (HN3.out.ef.grown (grown_set w6 g 4 (.slice A6 (s.clients.length + 1) c6)) (fun e => by injection e; have := HN3.out.lt; omega)))
      | (show wpList _ _ _ ({ dst := some 95, op := Op.load _ _, type := _, pos := _, after := _, guard := _ } :: _) _ _; go_loud (refine wpList_load_mid rfl 53 (.tmp 4) rfl (w.heap.size + 1) 0 rfl [.int .i64 1, .bool false, .slice none 0 0, .slice none 0 0] _ HEF.out.range Try.underlying53 rfl (by kernel_rfl) ?_))
      | (show wpList _ _ _ ({ dst := none, op := Op.store _ (Operand.tmp 4) _, type := _, pos := _, after := _, guard := _ } :: _) _ _; go_loud (refine wpList_store_mid rfl 53 (.tmp 4) (.tmp 95) rfl (w.heap.size + 1) 0 #[.int .i64 1, .bool false, .slice none 0 0, .slice none 0 0] rfl rfl (HEF.out.there 4 (Nat.le_refl _)) (by kernel_rfl) (by simp [Value.oneCell']) ?_); refine HEF.out.setW [.int .i64 1, .bool false, .slice none 0 0, .slice none 0 0] rfl ?_; intro w10 HZ10 HG10))
    (try simp only [Exit.inBlock, Exit.then])
    refine bodyPost_ret (results_cell_row rfl _ _ (w.heap.size + 1) _ _ _ _ rfl HZ10.out Try.underlying53 rfl (by kernel_rfl)) rfl ?_
    exact new_out HN3.out HO6.out HO.out OwnC.nil HG10.out HRS.out
  · have k2 : ((c.cells.length : Int) == 0) = false := by
      rw [beq_eq_false_iff_ne]
      intro h
      exact hnil (List.length_eq_zero_iff.1 (by omega))
    have HTW := Lib.hid (hbad.resolve_left hnil)
    have HCI := Lib.hid hc
    clear hnil hbad hc
    go_enter Try.func44, Try.ntmps44
    have c4 := HM.out.st.cell (j := 4) rfl
    go_wp2_with (first
      | (go_at_call 66; go_loud (refine (IM.client HM.out hcll).mono ?_); rw [HIX.out]; rintro e w2 ⟨rfl, hb⟩; have HN0 := Lib.hid (HM.out.below hb).toN; have q3 := HN0.out.cm.cell (j := 3) rfl; clear hb)
      | (go_at_call 68; go_loud (refine (twice_any A k c.cells _ ((HCI.out.rc.below HN0.out.bl).more HN0.out.bl.size) HCI.out.lc HCI.out.lk).mono ?_); rw [HTW.out]; rintro e w9 ⟨rfl, hb⟩; have HN := Lib.hid (HN0.out.below hb); have e0 := HN.out.ef.cell (j := 0) rfl; have g0 := HN.out.ef.free 0; have HN1 := Lib.hid (HN.out.setE 0 (.int .i64 1)); have c4' := HN1.out.st.cell (j := 4) rfl; clear hb)
      | (go_at_call 70; go_loud (refine (cloneClients_any xs.F xs.f s.clients _ HN1.out.sta.rc (by omega)).mono ?_); rintro e w3 ⟨A5, c5, rfl, ho, hb⟩; have HOK := Lib.hid (show OwnK _ _ _ _ _ _ from Own.lower ho (Nat.succ_le_of_lt HN1.out.ef.lt)); have HN2 := Lib.hid (HN1.out.below hb); have q1 := HN2.out.cm.cell (j := 1) rfl; have q2 := HN2.out.cm.cell (j := 2) rfl; have r0 := HN2.out.ef.cell (j := 0) rfl; clear hb ho)
      | (at_builtin; go_loud (refine clients_app rfl _ _ rfl (w.heap.size + 1 + 1) A5 s.clients.length c5 (s.clients.length + 1) s.clients [⟨c.client, c.num, 1⟩] rfl (OwnK.below HOK.out (below_al w3 (.cells #[.int .u64 c.client, .int .u64 c.num, .int .i64 1] 107))) (some ⟨w3.heap.size, 0, none⟩) 1 1 rfl (Rd.ofBlock (heap_alloc_new w3 (.cells #[.int .u64 c.client, .int .u64 c.num, .int .i64 1] 107)) (xs := kls [⟨c.client, c.num, 1⟩]) rfl) rfl rfl (by omega) (by rw [World.size_alloc]; have := HN2.out.ef.lt; omega) ?_); intro A6 c6 w6 HO6 HG6; go_loud (have HN3 := Lib.hid ((HN2.out.below (below_al w3 (.cells #[.int .u64 c.client, .int .u64 c.num, .int .i64 1] 107))).own HG6.out (fun q e => by have := (Own.lt HOK.out _ e).1; omega))); have g4 := HN3.out.st.cell (j := 4) rfl; have f4 := HN3.out.st.free 4; have HEF := Lib.hid (HN3.out.ef.grown (grown_set w6 g 4 (.slice A6 (s.clients.length + 1) c6)) (fun e => by injection e; have := HN3.out.lt; omega)))
      | (show wpList _ _ _ ({ dst := some 95, op := Op.load _ _, type := _, pos := _, after := _, guard := _ } :: _) _ _; go_loud (refine wpList_load_mid rfl 53 (.tmp 4) rfl (w.heap.size + 1) 0 rfl [.int .i64 1, .bool false, .slice none 0 0, .slice none 0 0] _ HEF.out.range Try.underlying53 rfl (by kernel_rfl) ?_))
      | (show wpList _ _ _ ({ dst := none, op := Op.store _ (Operand.tmp 4) _, type := _, pos := _, after := _, guard := _ } :: _) _ _; go_loud (refine wpList_store_mid rfl 53 (.tmp 4) (.tmp 95) rfl (w.heap.size + 1) 0 #[.int .i64 1, .bool false, .slice none 0 0, .slice none 0 0] rfl rfl (HEF.out.there 4 (Nat.le_refl _)) (by kernel_rfl) (by simp [Value.oneCell']) ?_); refine HEF.out.setW [.int .i64 1, .bool false, .slice none 0 0, .slice none 0 0] rfl ?_; intro w10 HZ10 HG10))
    (try simp only [Exit.inBlock, Exit.then])
    refine bodyPost_ret (results_cell_row rfl _ _ (w.heap.size + 1) _ _ _ _ rfl HZ10.out Try.underlying53 rfl (by kernel_rfl)) rfl ?_
    exact new_out HN3.out HO6.out HO.out OwnC.nil HG10.out HRS.out
end Go.Proofs.Ytiiogdgnccgehaa
namespace Go.Proofs.Ytiiogdgnccgehaa
open Go.RowKit
attribute [local go_sem ↓] Go.wp_at_zero Go.wp_at_succ

theorem del_own {w W : World} {g c q : Nat} {l : List Kl} (h : Arr Kl.vs 3 W g 107 (c * 3) (l.take q ++ l.drop (q + 1))) (hg : w.heap.size + 1 < g) (hq : q < l.length) (hc : l.length ≤ c) (hm : c ≤ maxLen) : OwnK W (w.heap.size + 1 + 1) (some ⟨g, 0, none⟩) (l.length - 1) c (l.take q ++ l.drop (q + 1)) := by
  have hl : (l.take q ++ l.drop (q + 1)).length = l.length - 1 := by
    simp
    omega
  have h1 := h.own (base := w.heap.size + 1 + 1) Kl.vs_len (by omega) hg (by omega) hm
  rw [hl] at h1
  exact h1

set_option maxRecDepth 100000 in
set_option maxHeartbeats 8000000 in
theorem batch_again_bad (w : World) (g : Nat) (c : Cmd) (A : Option Addr) (k : Nat) (D : Option Addr) (m : Nat) (s : Sta) (xs : SA) (hs : Blk 47 w g (s.vs xs)) (hin : StaIn w w.heap.size s xs) (hc : CmdIn w w.heap.size c A k D m) (hoff : Off w xs g) (hcll : s.clients.length ≤ 1000)
    (q : Nat) (hq : q < s.clients.length) (hix : idx (isKl c.client) s.clients = (q : Int)) (hgt : s.clients[q].num < c.num) (hbad : c.cells = [] ∨ twiceL c.cells = true)
    (hr : batchS s c = ({ s with clients := s.clients.take q ++ s.clients.drop (q + 1) ++ [⟨c.client, c.num, 1⟩] }, ⟨1, false, [], []⟩)) :
    Calls Try.prog 44 #[.pointer (some ⟨g, 0, none⟩), .agg (c.vs A k D m).toArray] w (MOut w g xs D (batchS s c)) := by
  have hm0 := IM.start (c := c) (A := A) (k := k) (D := D) (m := m) w hs hin
  have HIX := Lib.hid hix
  have HM := Lib.hid hm0
  have HRS := Lib.hid hr
  have HO := Lib.hid hoff
  have HCI := Lib.hid hc
  obtain ⟨y, hy⟩ : ∃ y, s.clients[q] = y := ⟨_, rfl⟩
  obtain ⟨b, o, hF, hb0, hcl⟩ := hin.rc.at_ (kls_ne hq)
  have r1 := Rd.enc_range Kl.vs_len hcl q hq
  rw [hy] at r1
  have R1 := Lib.hid r1
  have HB0 := Lib.hid hb0
  have HF := Lib.hid hF
  clear hcl r1 hb0
  rw [hy] at hgt
  unfold effz Cmd.vs at HM
  unfold Cmd.vs
  have k0 : (0 : Int) ≤ (q : Int) := by omega
  have k1 : decide ((0 : Int) ≤ (q : Int)) = true := decide_eq_true k0
  have k5 : (q : Int) < (s.clients.length : Int) := by omega
  have k3 : ((c.num : Int) == (y.num : Int)) = false := by rw [beq_eq_false_iff_ne]; omega
  have k4 : decide (c.num < y.num) = false := decide_eq_false (by omega)
  have hwq : IntKind.i64.wrap ((q : Int) + 1) = ((q + 1 : Nat) : Int) := by rw [IntWalk.i64_in _ (by omega)]; omega
  clear hs hin hm0 hix hr hoff hc hy hF hgt
  by_cases hnil : c.cells = []
  · have k2 : ((c.cells.length : Int) == 0) = true := by rw [hnil]; rfl
    clear hnil hbad
    go_enter Try.func44, Try.ntmps44
    have c4 := HM.out.st.cell (j := 4) rfl
    go_wp2_with (first
      | (go_at_call 66; go_loud (refine (IM.client HM.out hcll).mono ?_); rw [HIX.out]; rintro e w2 ⟨rfl, hb⟩; have HM0 := HM; clear HM; have HM := Lib.hid (HM0.out.below hb); clear HM0 hb c4; have c4 := HM.out.st.cell (j := 4) rfl; have q2 := HM.out.cm.cell (j := 2) rfl; have HR1 := Lib.hid (rangeAt_below R1.out HM.out.bl HB0.out); (try rw [HF.out] at c4))
      | (show wpList _ _ _ ({ dst := some 23, op := Op.load _ _, type := _, pos := _, after := _, guard := _ } :: _) _ _; go_loud (refine wpList_load_mid rfl 107 (.tmp 22) rfl b (o + q * 3) rfl y.vs _ HR1.out Try.underlying107 rfl (by kernel_rfl) ?_))
      | (show wpList _ _ _ ({ dst := none, op := Op.store _ (Operand.tmp 6) _, type := _, pos := _, after := _, guard := _ } :: _) _ _; have hn := HM.out.new 107 [.int .u64 0, .int .u64 0, .int .i64 0]; refine wpList_store_mid rfl 107 (.tmp 6) (.tmp 23) rfl _ 0 y.vs.toArray rfl rfl (hn.2.1.there 3 (Nat.le_refl _)) (by kernel_rfl) (by simp [Value.oneCell', Kl.vs]) ?_; generalize hw9 : World.setCells _ _ 0 _ = w9; have hn2 := hn.1.setE hn.2 y.vs rfl hw9; clear hn HM hw9 c4 q2; have HM := Lib.hid hn2.1; have HJ := Lib.hid hn2.2; clear hn2; have j1 := HJ.out.1.cell (j := 1) rfl; have j2 := HJ.out.1.cell (j := 2) rfl; have q2 := HM.out.cm.cell (j := 2) rfl; have HN := Lib.hid HM.out.toN; have q3 := HN.out.cm.cell (j := 3) rfl; have e0 := HN.out.ef.cell (j := 0) rfl; have g0 := HN.out.ef.free 0; have HN1 := Lib.hid (HN.out.setE 0 (.int .i64 1)); have c4' := HN1.out.st.cell (j := 4) rfl)
      | (go_at_call 70; go_loud (refine (cloneClients_any xs.F xs.f s.clients _ HN1.out.sta.rc (by omega)).mono ?_); rintro e w3 ⟨A5, c5, rfl, ho, hb⟩; obtain ⟨g7, S7, hA5, hb7, hS7, hnc, hcm, hln, harr⟩ := Own.arr (enc := Kl.vs) Kl.vs_len ho (by omega) (by omega); subst hA5 hS7; have HAR := Lib.hid harr; have HN2 := Lib.hid (HN1.out.below hb); have HG7 := Lib.hid (Nat.lt_of_lt_of_le HN1.out.ef.lt hb7); have HCM := Lib.hid hcm; have HNC := Lib.hid hnc; clear hb ho hb7 harr hcm hnc hln)
      | (go_at_call 71; go_loud (refine (deleteClients_any g7 _ c5 s.clients.length q (q + 1) s.clients _ HAR.out rfl (by omega) HNC.out hq rfl).mono ?_); rintro e w4 ⟨rfl, har, hg⟩; go_loud (have HOK2 := Lib.hid (del_own har HG7.out hq HNC.out HCM.out)); have HN4 := Lib.hid (HN2.out.own hg (fun q e => by injection e with e; have := HG7.out; omega)); have q1 := HN4.out.cm.cell (j := 1) rfl; have q2' := HN4.out.cm.cell (j := 2) rfl; have r0 := HN4.out.ef.cell (j := 0) rfl; clear har hg)
      | (at_builtin; go_loud (refine clients_app rfl _ _ rfl (w.heap.size + 1 + 1) (some ⟨g7, 0, none⟩) (s.clients.length - 1) c5 (s.clients.length - 1 + 1) (s.clients.take q ++ s.clients.drop (q + 1)) [⟨c.client, c.num, 1⟩] rfl (OwnK.below HOK2.out (below_al w4 (.cells #[.int .u64 c.client, .int .u64 c.num, .int .i64 1] 107))) (some ⟨w4.heap.size, 0, none⟩) 1 1 rfl (Rd.ofBlock (heap_alloc_new w4 (.cells #[.int .u64 c.client, .int .u64 c.num, .int .i64 1] 107)) (xs := kls [⟨c.client, c.num, 1⟩]) rfl) rfl rfl (by omega) (by rw [World.size_alloc]; have := HN4.out.ef.lt; omega) ?_); intro A6 c6 w6 HO6 HG6; go_loud (have HN3 := Lib.hid ((HN4.out.below (below_al w4 (.cells #[.int .u64 c.client, .int .u64 c.num, .int .i64 1] 107))).own HG6.out (fun q e => by have := (Own.lt HOK2.out _ e).1; omega))); have g4 := HN3.out.st.cell (j := 4) rfl; have f4 := HN3.out.st.free 4; have HEF := Lib.hid (HN3.out.ef.grown (grown_set w6 g 4 (.slice A6 (s.clients.length - 1 + 1) c6)) (fun e => by injection e; have := HN3.out.lt; omega)))
      | (show wpList _ _ _ ({ dst := some 95, op := Op.load _ _, type := _, pos := _, after := _, guard := _ } :: _) _ _; go_loud (refine wpList_load_mid rfl 53 (.tmp 4) rfl (w.heap.size + 1) 0 rfl [.int .i64 1, .bool false, .slice none 0 0, .slice none 0 0] _ HEF.out.range Try.underlying53 rfl (by kernel_rfl) ?_))
      | (show wpList _ _ _ ({ dst := none, op := Op.store _ (Operand.tmp 4) _, type := _, pos := _, after := _, guard := _ } :: _) _ _; go_loud (refine wpList_store_mid rfl 53 (.tmp 4) (.tmp 95) rfl (w.heap.size + 1) 0 #[.int .i64 1, .bool false, .slice none 0 0, .slice none 0 0] rfl rfl (HEF.out.there 4 (Nat.le_refl _)) (by kernel_rfl) (by simp [Value.oneCell']) ?_); refine HEF.out.setW [.int .i64 1, .bool false, .slice none 0 0, .slice none 0 0] rfl ?_; intro w10 HZ10 HG10))
    (try simp only [Exit.inBlock, Exit.then])
    refine bodyPost_ret (results_cell_row rfl _ _ (w.heap.size + 1) _ _ _ _ rfl HZ10.out Try.underlying53 rfl (by kernel_rfl)) rfl ?_
    exact new_out HN3.out HO6.out HO.out OwnC.nil HG10.out HRS.out
  · have k2 : ((c.cells.length : Int) == 0) = false := by
      rw [beq_eq_false_iff_ne]
      intro h
      exact hnil (List.length_eq_zero_iff.1 (by omega))
    have HTW := Lib.hid (hbad.resolve_left hnil)
    clear hnil hbad
    go_enter Try.func44, Try.ntmps44
    have c4 := HM.out.st.cell (j := 4) rfl
    go_wp2_with (first
      | (go_at_call 66; go_loud (refine (IM.client HM.out hcll).mono ?_); rw [HIX.out]; rintro e w2 ⟨rfl, hb⟩; have HM0 := HM; clear HM; have HM := Lib.hid (HM0.out.below hb); clear HM0 hb c4; have c4 := HM.out.st.cell (j := 4) rfl; have q2 := HM.out.cm.cell (j := 2) rfl; have HR1 := Lib.hid (rangeAt_below R1.out HM.out.bl HB0.out); (try rw [HF.out] at c4))
      | (show wpList _ _ _ ({ dst := some 23, op := Op.load _ _, type := _, pos := _, after := _, guard := _ } :: _) _ _; go_loud (refine wpList_load_mid rfl 107 (.tmp 22) rfl b (o + q * 3) rfl y.vs _ HR1.out Try.underlying107 rfl (by kernel_rfl) ?_))
      | (show wpList _ _ _ ({ dst := none, op := Op.store _ (Operand.tmp 6) _, type := _, pos := _, after := _, guard := _ } :: _) _ _; have hn := HM.out.new 107 [.int .u64 0, .int .u64 0, .int .i64 0]; refine wpList_store_mid rfl 107 (.tmp 6) (.tmp 23) rfl _ 0 y.vs.toArray rfl rfl (hn.2.1.there 3 (Nat.le_refl _)) (by kernel_rfl) (by simp [Value.oneCell', Kl.vs]) ?_; generalize hw9 : World.setCells _ _ 0 _ = w9; have hn2 := hn.1.setE hn.2 y.vs rfl hw9; clear hn HM hw9 c4 q2; have HM := Lib.hid hn2.1; have HJ := Lib.hid hn2.2; clear hn2; have j1 := HJ.out.1.cell (j := 1) rfl; have j2 := HJ.out.1.cell (j := 2) rfl; have q2 := HM.out.cm.cell (j := 2) rfl; have HN0 := Lib.hid HM.out.toN; have q3 := HN0.out.cm.cell (j := 3) rfl)
      | (go_at_call 68; go_loud (refine (twice_any A k c.cells _ ((HCI.out.rc.below HN0.out.bl).more HN0.out.bl.size) HCI.out.lc HCI.out.lk).mono ?_); rw [HTW.out]; rintro e w8 ⟨rfl, hb⟩; have HN := Lib.hid (HN0.out.below hb); have e0 := HN.out.ef.cell (j := 0) rfl; have g0 := HN.out.ef.free 0; have HN1 := Lib.hid (HN.out.setE 0 (.int .i64 1)); have c4' := HN1.out.st.cell (j := 4) rfl; clear hb)
      | (go_at_call 70; go_loud (refine (cloneClients_any xs.F xs.f s.clients _ HN1.out.sta.rc (by omega)).mono ?_); rintro e w3 ⟨A5, c5, rfl, ho, hb⟩; obtain ⟨g7, S7, hA5, hb7, hS7, hnc, hcm, hln, harr⟩ := Own.arr (enc := Kl.vs) Kl.vs_len ho (by omega) (by omega); subst hA5 hS7; have HAR := Lib.hid harr; have HN2 := Lib.hid (HN1.out.below hb); have HG7 := Lib.hid (Nat.lt_of_lt_of_le HN1.out.ef.lt hb7); have HCM := Lib.hid hcm; have HNC := Lib.hid hnc; clear hb ho hb7 harr hcm hnc hln)
      | (go_at_call 71; go_loud (refine (deleteClients_any g7 _ c5 s.clients.length q (q + 1) s.clients _ HAR.out rfl (by omega) HNC.out hq rfl).mono ?_); rintro e w4 ⟨rfl, har, hg⟩; go_loud (have HOK2 := Lib.hid (del_own har HG7.out hq HNC.out HCM.out)); have HN4 := Lib.hid (HN2.out.own hg (fun q e => by injection e with e; have := HG7.out; omega)); have q1 := HN4.out.cm.cell (j := 1) rfl; have q2' := HN4.out.cm.cell (j := 2) rfl; have r0 := HN4.out.ef.cell (j := 0) rfl; clear har hg)
      | (at_builtin; go_loud (refine clients_app rfl _ _ rfl (w.heap.size + 1 + 1) (some ⟨g7, 0, none⟩) (s.clients.length - 1) c5 (s.clients.length - 1 + 1) (s.clients.take q ++ s.clients.drop (q + 1)) [⟨c.client, c.num, 1⟩] rfl (OwnK.below HOK2.out (below_al w4 (.cells #[.int .u64 c.client, .int .u64 c.num, .int .i64 1] 107))) (some ⟨w4.heap.size, 0, none⟩) 1 1 rfl (Rd.ofBlock (heap_alloc_new w4 (.cells #[.int .u64 c.client, .int .u64 c.num, .int .i64 1] 107)) (xs := kls [⟨c.client, c.num, 1⟩]) rfl) rfl rfl (by omega) (by rw [World.size_alloc]; have := HN4.out.ef.lt; omega) ?_); intro A6 c6 w6 HO6 HG6; go_loud (have HN3 := Lib.hid ((HN4.out.below (below_al w4 (.cells #[.int .u64 c.client, .int .u64 c.num, .int .i64 1] 107))).own HG6.out (fun q e => by have := (Own.lt HOK2.out _ e).1; omega))); have g4 := HN3.out.st.cell (j := 4) rfl; have f4 := HN3.out.st.free 4; have HEF := Lib.hid (HN3.out.ef.grown (grown_set w6 g 4 (.slice A6 (s.clients.length - 1 + 1) c6)) (fun e => by injection e; have := HN3.out.lt; omega)))
      | (show wpList _ _ _ ({ dst := some 95, op := Op.load _ _, type := _, pos := _, after := _, guard := _ } :: _) _ _; go_loud (refine wpList_load_mid rfl 53 (.tmp 4) rfl (w.heap.size + 1) 0 rfl [.int .i64 1, .bool false, .slice none 0 0, .slice none 0 0] _ HEF.out.range Try.underlying53 rfl (by kernel_rfl) ?_))
      | (show wpList _ _ _ ({ dst := none, op := Op.store _ (Operand.tmp 4) _, type := _, pos := _, after := _, guard := _ } :: _) _ _; go_loud (refine wpList_store_mid rfl 53 (.tmp 4) (.tmp 95) rfl (w.heap.size + 1) 0 #[.int .i64 1, .bool false, .slice none 0 0, .slice none 0 0] rfl rfl (HEF.out.there 4 (Nat.le_refl _)) (by kernel_rfl) (by simp [Value.oneCell']) ?_); refine HEF.out.setW [.int .i64 1, .bool false, .slice none 0 0, .slice none 0 0] rfl ?_; intro w10 HZ10 HG10))
    (try simp only [Exit.inBlock, Exit.then])
    refine bodyPost_ret (results_cell_row rfl _ _ (w.heap.size + 1) _ _ _ _ rfl HZ10.out Try.underlying53 rfl (by kernel_rfl)) rfl ?_
    exact new_out HN3.out HO6.out HO.out OwnC.nil HG10.out HRS.out
end Go.Proofs.Ytiiogdgnccgehaa
