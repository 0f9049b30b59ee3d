/-
  The walk of slices.Chunk's iterator at lists of items. The walk of merge.Pass. The walks of merge.All and merge.Cells. No conditions.
-/
import Derived.Test.YtflppcgonbjnmaaGroup9
namespace Go.Proofs.Ytflppcgonbjnmaa
open Go.RowKit Go.Shelf
attribute [local go_sem ↓] Go.wp_at_zero Go.wp_at_succ
attribute [local go_sem] Oper.semAt_some

def cutL (l : List (List It)) (x : Cut l.length) : List (List It) := (l.drop x.1.1).take (x.1.2 - x.1.1)
def cutValL (A : Option Addr) (n : Nat) (x : Cut n) : Value := .slice (A.map (·.add (x.1.1))) (x.1.2 - x.1.1) (x.1.2 - x.1.1)

/-- between two rounds -/
def ChInvL (l : List (List It)) (m : Nat) (pre : List (Cut l.length)) (i : Nat) : Prop := pre.map (cutL l) ++ chunksL m (l.drop i) = chunksL m l ∧ (i = 0 ∨ m ≤ i) ∧ (i < l.length → i ≤ 1000000)
theorem ChInvL.zero (l : List (List It)) (m : Nat) : ChInvL l m [] 0 := ⟨by simp, .inl rfl, fun _ => by omega⟩
theorem ChInvL.next {l : List (List It)} {m : Nat} {pre : List (Cut l.length)} {i e : Nat} (hm : 1 ≤ m) (hlen : l.length ≤ 1000000) (h : ChInvL l m pre i) (hi : i < l.length) (he : min m (l.length - i) = e) (h1 : i < i + e) (h2 : i + e ≤ l.length) :
    ChInvL l m (pre ++ [⟨(i, i + e), h1, h2⟩]) (i + m) := by
  obtain ⟨a, b, c⟩ := h
  refine ⟨?_, .inr (by omega), fun _ => by omega⟩
  rw [← a, List.map_append, List.append_assoc]
  congr 1
  have hne : l.drop i ≠ [] := by
    intro e
    have := congrArg List.length e
    rw [List.length_drop] at this
    simp at this
    omega
  rw [chunksL_cons hm hne, List.drop_drop]
  have : cutL l ⟨(i, i + e), h1, h2⟩ = (l.drop i).take m := by
    unfold cutL
    simp only [Nat.add_sub_cancel_left]
    by_cases hc : m ≤ l.length - i
    · rw [show e = m by omega]
    · rw [List.take_of_length_le (by rw [List.length_drop]; omega), List.take_of_length_le (by rw [List.length_drop]; omega)]
  simp [this]
theorem ChInvL.done {l : List (List It)} {m : Nat} {pre : List (Cut l.length)} {i : Nat} (h : ChInvL l m pre i) (hi : ¬ i < l.length) : pre.map (cutL l) = chunksL m l := by
  have := h.1
  rwa [List.drop_of_length_le (by omega), chunksL_nil, List.append_nil] at this

theorem run_full1 {P : Program} {t e : TypeId} {i : TypeInfo} (ht : P.underlying t = some (.slice e)) (hi : P.info? e = some i) (hs : i.size = 1) (A : Option Addr) (n c m k : Nat) (hm : m < k) (hk : k ≤ c) (W : World) :
    (Instr.slice t (.slice A n c) (some (.int .i64 (m : Int))) (some (.int .i64 (k : Int))) (some (.int .i64 (k : Int)))).run P W = .ok (.slice (A.map (·.add m)) (k - m) (k - m)) W := by
  have := run_full (P := P) ht hi hs A n c m k hm hk W
  rwa [Nat.mul_one] at this
set_option maxRecDepth 100000 in
set_option maxHeartbeats 2000000 in
theorem chunkL1_in (n : Nat) (hn : 1 ≤ n) (r B1 B2 n0 : Nat) (A : Option Addr) (c m : Nat) (l : List (List It)) (hlen : l.length ≤ 1000000) (hcap : l.length ≤ c) (hm : 1 ≤ m) (hm2 : m ≤ 9223372036854775807) (J Jx : List (Cut l.length) → World → Prop)
    (hY : ∀ (pre : List (Cut l.length)) (x : Cut l.length) (W : World), J pre W → pre.length < l.length → YieldAt Fence.wide (n - 1) Try.prog r #[cutValL A l.length x] W fun e W' =>
      (e = .returned (.bool true) ∧ J (pre ++ [x]) W' ∧ Kept2 n0 B1 B2 W W') ∨ (e = .returned (.bool false) ∧ Jx (pre ++ [x]) W'))
    (hJd : ∀ pre W k, J pre W → J pre (W.drewN k))
    (W : World) (hB1 : Box W B1 30 (.slice A l.length c)) (hB2 : Box W B2 3 (.int .i64 m)) (h0 : J [] W) :
    CallsIn Fence.wide n Try.prog 46 #[.func (.yield r) #[] #[], .pointer (some ⟨B1, 0, none⟩), .pointer (some ⟨B2, 0, none⟩)] W fun e W' => (∃ v, e = .returned v) ∧
      ((∃ ys : List (Cut l.length), ys.map (cutL l) = chunksL m l ∧ J ys W') ∨ (∃ pre, True ∧ Jx pre W')) := by
  obtain ⟨j0, hj0, _, hj1, _⟩ := info_parts itemsInfo
  refine callsIn_of_wp Try.func46 rfl trivial ?_ rfl
  simp only [Try.ntmps46, List.size_toArray, List.length_cons, List.length_nil, Nat.reduceAdd, Nat.reduceSub, Array.replicate_succ, Array.replicate_zero, List.push_toArray, List.append_toArray, List.nil_append, List.cons_append]
  gi_wp2
  gi_loopw [4] (fun vi wr => ∃ (pre : List (Cut l.length)) (i : Nat), vi = .int .i64 (i : Int) ∧ Hid (ChInvL l m pre i) ∧ pre.length ≤ i ∧ J pre wr ∧ Box wr B1 30 (.slice A l.length c) ∧ Box wr B2 3 (.int .i64 m))
    (fun vi _ => l.length - (intOf vi).toNat)
  case atStart => exact ⟨[], 0, rfl, Lib.hid (ChInvL.zero l m), Nat.le_refl _, h0, hB1, hB2⟩
  case round =>
    obtain ⟨pre, i, rfl, HI, hpl, hJs, hb1, hb2⟩ := hrel
    have c1 := hb1.cell
    have c2 := hb2.cell
    by_cases hlt : i < l.length
    · have HY := Lib.hid hY
      clear hY
      have hi2 := HI.out.2.1
      obtain ⟨e, he⟩ : ∃ e, min m (l.length - i) = e := ⟨_, rfl⟩
      have hsl1 := fun W => run_tail (P := Try.prog) (t := 30) (e := 32) (size := 1) Try.underlying30 hj0 hj1 A l.length c i (by omega) W
      have hsl2 := fun W => run_full1 (P := Try.prog) (t := 30) (e := 32) Try.underlying30 hj0 hj1 A l.length c i (i + e) (by omega) (by omega) W
      have hwe : IntKind.i64.wrap ((i : Int) + (e : Int)) = ((i + e : Nat) : Int) := by rw [IntWalk.i64_in _ (by omega)]; omega
      have hwm : IntKind.i64.wrap ((i : Int) + (m : Int)) = ((i + m : Nat) : Int) := by rw [IntWalk.i64_in _ (by omega)]; omega
      have k1 : (0 : Int) ≤ (i : Int) := by omega
      have k2 : (i : Int) ≤ (l.length : Int) := by omega
      have k3 : decide ((i : Int) < (l.length : Int)) = true := decide_eq_true (by omega)
      have HN := Lib.hid (HI.out.next hm hlen hlt he (by omega) (by omega))
      gi_wp2
      refine wpIn_wide.2 ?_
      go_quiet (fail)
      have hmin : (if l.length - i < m then ((l.length - i : Nat) : Int) else (m : Int)) = (e : Int) := by split <;> omega
      rw [hmin]
      clear hmin
      obtain ⟨fn, tmps, assign, body, hy, hR⟩ := HY.out pre ⟨(i, i + e), show i < i + e by omega, show i + e ≤ l.length by omega⟩ (wr.drewN nq) (hJd _ _ _ hJs) (by omega)
      unfold cutValL at hy
      simp only [Nat.add_sub_cancel_left] at hy
      have c1 : (wr.drewN nq).cell? ⟨B1, 0, none⟩ = some (.slice A l.length c) := c1
      have c2 : (wr.drewN nq).cell? ⟨B2, 0, none⟩ = some (.int .i64 m) := c2
      have q1 : (i : Int) ≤ ((i + e : Nat) : Int) := by omega
      have q2 : ((i + e : Nat) : Int) ≤ (c : Int) := by omega
      gi_wp2
      refine hR.mono ?_
      rintro e W3 (⟨rfl, hJ3, hk3⟩ | ⟨rfl, hJx3⟩)
      · have c3 := ((hb2.drewN nq).keepK (hk3 B2 (.inr (.inr rfl)))).cell
        gi_wp2
        exact ⟨⟨_, i + m, by first | rfl | go_num, HN, by simp; omega, hJ3, (hb1.drewN nq).keepK (hk3 B1 (.inr (.inl rfl))), (hb2.drewN nq).keepK (hk3 B2 (.inr (.inr rfl)))⟩, by simp [intOf]; omega⟩
      · gi_wp2
        refine bodyPost_ret (results_none rfl _ _ _) rfl ?_
        exact ⟨⟨_, rfl⟩, .inr ⟨_, trivial, hJx3⟩⟩
    · have HD := Lib.hid (HI.out.done hlt)
      gi_wp2
      go_end0
      exact ⟨⟨_, rfl⟩, .inl ⟨pre, HD.out, hJs⟩⟩
end Go.Proofs.Ytflppcgonbjnmaa
namespace Go.Proofs.Ytflppcgonbjnmaa
open Go.RowKit Go.Shelf
attribute [local go_sem ↓] Go.wp_at_zero Go.wp_at_succ
attribute [local go_sem] Oper.semAt_some

theorem chunkL_any (A : Option Addr) (n c m : Nat) (w : World) (hm : 1 ≤ m) :
    Calls Try.prog 29 #[.slice A n c, .int .i64 m] w fun e w' => e = .returned (.func (.func 46) #[] #[.pointer (some ⟨w.heap.size, 0, none⟩), .pointer (some ⟨w.heap.size + 1, 0, none⟩)]) ∧
      (w.alloc (.cells #[.slice A n c] 30)).alloc (.cells #[.int .i64 m] 3) = w' := by
  go_enter Try.func29, Try.ntmps29
  have hmd : decide ((m : Int) < 1) = false := decide_eq_false (by omega)
  have hmd2 : ¬ m = 0 := by omega
  have hmd3 : ¬ (m : Int) < 1 := by omega
  go_wp2
  go_ret
  exact ⟨rfl, rfl⟩

theorem chunkL_stops (n : Nat) (hn : 1 ≤ n) (B1 B2 n0 : Nat) (A : Option Addr) (c m : Nat) (l : List (List It)) (hlen : l.length ≤ 1000000) (hcap : l.length ≤ c) (hm : 1 ≤ m) (hm2 : m ≤ 9223372036854775807) (w : World) (hB1 : Box w B1 30 (.slice A l.length c)) (hB2 : Box w B2 3 (.int .i64 m)) :
    SeqStopsK Fence.wide n Try.prog 46 #[.pointer (some ⟨B1, 0, none⟩), .pointer (some ⟨B2, 0, none⟩)] (fun x : Cut l.length => #[cutValL A l.length x]) (Kept2 n0 B1 B2) (fun ys => ys.map (cutL l) = chunksL m l) (fun _ => True) l.length w := fun r J Jx W hW hJ _ hY h0 =>
  chunkL1_in n hn r B1 B2 n0 A c m l hlen hcap hm hm2 J Jx hY (fun pre W k h => hJ pre W _ none h ⟨rfl, rfl, rfl, Nat.le_refl _, fun _ _ _ => rfl⟩ (fun r e => by cases e)) W (hB1.below hW hB1.lt) (hB2.below hW hB2.lt) h0

/-- between two rounds: what is put out -/
structure PassSt (w : World) (Bn : Nat) (W : World) (Ao : Option Addr) (no co : Nat) (vs : List Value) (ps : List (List It)) : Prop where
  box : Box W w.heap.size 30 (.slice Ao no co)
  own : Own W (Bn + 1) 32 1 Ao no co vs
  lists : ILists W (Bn + 1) vs ps
  hBn : w.heap.size + 1 ≤ Bn
  hBW : Bn < W.heap.size
  below : Below w.heap.size w W
theorem PassSt.new {w : World} {Bn : Nat} {W : World} {Ao : Option Addr} {no co : Nat} {vs : List Value} {ps : List (List It)} (h : PassSt w Bn W Ao no co vs ps) {R : List It} {w2 w3 : World} {A2 A3 : Option Addr} {rl c2 c3 : Nat} (hrl : R.length = rl)
    (ho2 : Own w2 W.heap.size 59 7 A2 rl c2 (its R)) (hb2 : Below W.heap.size W w2) (ho3 : Own w3 (Bn + 1) 32 1 A3 (no + 1) c3 (vs ++ [.slice A2 rl c2])) (hg3 : (w2.alloc (.cells #[.slice A2 rl c2] 32)).grownBy w3 (blk Ao)) (B1 : Nat) (hB1 : w.heap.size < B1) (hB1n : B1 ≤ Bn) :
    PassSt w Bn (w3.setCell ⟨w.heap.size, 0, none⟩ (.slice A3 (no + 1) c3)) A3 (no + 1) c3 (vs ++ [.slice A2 rl c2]) (ps ++ [R]) ∧ KeepsOthers W (w3.setCell ⟨w.heap.size, 0, none⟩ (.slice A3 (no + 1) c3)) ∧ Kept2 0 B1 Bn W (w3.setCell ⟨w.heap.size, 0, none⟩ (.slice A3 (no + 1) c3)) := by
  subst hrl
  obtain ⟨hbox, hown, hlist, hBn, hBW, hB⟩ := h
  have hz2 := hb2.size
  have hown1 : Own (w2.alloc (.cells #[.slice A2 R.length c2] 32)) (Bn + 1) 32 1 Ao no co vs := Own.alloc (Own.below hown hb2) _
  have hlist1 : ILists (w2.alloc (.cells #[.slice A2 R.length c2] 32)) (Bn + 1) vs ps := hlist.keep fun A n c p h => Own.alloc (Own.below h hb2) _
  have far : ∀ k, k ≤ Bn → some k ≠ blk Ao := fun k hk e => by have := (hown.lt _ e.symm).1; omega
  have hz3 : (w2.alloc (.cells #[.slice A2 R.length c2] 32)).heap.size = w2.heap.size + 1 := World.size_alloc ..
  have hz4 := hg3.size
  have hz5 : (w3.setCell ⟨w.heap.size, 0, none⟩ (.slice A3 (no + 1) c3)).heap.size = w3.heap.size := by simp [World.setCell]
  have hB3 : Below w.heap.size w w3 := hown1.grow ((hB.trans (hb2.mono (by omega))).alloc (by omega) _) (by omega) (by omega) hg3
  have hlt3 : ∀ A n c xs, Own w3 (Bn + 1) 59 7 A n c xs → Own (w3.setCell ⟨w.heap.size, 0, none⟩ (.slice A3 (no + 1) c3)) (Bn + 1) 59 7 A n c xs := fun A n c xs ho => ho.setCell (fun e => by have h1 := (ho.lt _ e).1; have h2 : Bn + 1 ≤ w.heap.size := h1; omega) _
  refine ⟨⟨?_, ?_, ?_, hBn, by omega, hB3.setCell (Nat.le_refl _) _⟩, ?_, ?_⟩
  · exact (((hbox.below hb2 (by omega)).alloc _).grown hg3 (far _ (by omega))).set _
  · exact ho3.setCell (fun e => by have h1 := (ho3.lt _ e).1; have h2 : Bn + 1 ≤ w.heap.size := h1; omega) _
  · have h1 : ILists w3 (Bn + 1) vs ps := hlist1.keep fun A n c xs ho => Own.grown ho hg3 (Own.type_ne' ho hown1 (by decide))
    have h2 := h1.snoc (p := R) (A := A2) (c := c2) (Own.grown (Own.alloc (Own.lower ho2 (by omega)) _) hg3 (Own.type_ne' (Own.alloc ho2 _) hown1 (by decide)))
    exact h2.keep hlt3
  · exact ((⟨hz2, fun k o hk _ => (hb2.block k (Array.getElem?_eq_some_iff.1 hk).1).trans hk⟩ : KeepsOthers W w2).trans (KeepsOthers.alloc _ _)).trans ((KeepsOthers.of_grownBy hg3 (fun j o hj ho => hown1.cellsAt' j o hj ho)).trans (KeepsOthers.setCell _ _ _))
  · intro k hk
    have hkB : k ≤ Bn := by omega
    have hk1 : k ≠ w.heap.size := by omega
    rw [Below.heap_setCell _ _ _ _ hk1, hg3.block k (by omega) (far k hkB), Below.heap_alloc _ _ _ (by omega)]
    exact hb2.block k (by omega)
/-- a turn of the loop's own blocks -/
theorem PassSt.turn {w : World} {Bn : Nat} {W W' : World} {Ao : Option Addr} {no co : Nat} {vs : List Value} {ps : List (List It)} (h : PassSt w Bn W Ao no co vs ps) {row : Option Nat} (hg : W.grownBy W' row)
    (hr : ∀ r, row = some r → Bn < r ∧ ∃ o, W.heap[r]? = some o ∧ o.isCells = false) : PassSt w Bn W' Ao no co vs ps := by
  obtain ⟨hbox, hown, hlist, hBn, hBW, hB⟩ := h
  have key : ∀ k, (∀ o, W.heap[k]? = some o → o.isCells = true) → some k ≠ row := fun k hk e => by
    obtain ⟨_, o, ho, hc⟩ := hr k e.symm
    rw [hk o ho] at hc
    cases hc
  have kbox : ∀ {k e v}, Box W k e v → some k ≠ row := fun {k e v} hb => key k fun o ho => by
    unfold Box at hb
    rw [hb] at ho
    injection ho with ho
    subst ho
    rfl
  have kown : ∀ {b e sz A n c xs}, Own W b e sz A n c xs → blk A = none ∨ blk A ≠ row := fun {b e sz A n c xs} ho => by
    cases hA : blk A with
    | none => exact .inl rfl
    | some k => exact .inr (key k fun o h => ho.cellsAt' k o hA h)
  have hz := hg.size
  refine ⟨hbox.grown hg (kbox hbox), Own.grown hown hg (kown hown), hlist.keep fun A n c p h => Own.grown h hg (kown h), hBn, by omega, ?_⟩
  have hw := hB.size
  refine ⟨hg.os.trans hB.os, hg.tape.trans hB.tape, hg.output.trans hB.output, by omega, fun k hk => ?_⟩
  exact (hg.block k (by omega) (fun e => by have := (hr k e.symm).1; omega)).trans (hB.block k hk)
theorem sorted_cut {L : List (List It)} (h : sortedL L = true) (x : Cut L.length) : sortedL (cutL L x) = true := by
  unfold sortedL at h ⊢
  rw [List.all_eq_true] at h ⊢
  intro r hr
  exact h r (List.mem_of_mem_drop (List.mem_of_mem_take hr))
theorem group_cut {L : List (List It)} (h : sortedL L = true) (x : Cut L.length) : groupP (cutL L x) = resolve (cutL L x).flatten := by
  unfold groupP
  rw [sorted_cut h x]
  rfl
theorem cutL_length (L : List (List It)) (x : Cut L.length) : (cutL L x).length = x.1.2 - x.1.1 := by
  have h1 := x.2.1
  have h2 := x.2.2
  unfold cutL
  rw [List.length_take, List.length_drop]
  omega
theorem cutL_flat (L : List (List It)) (x : Cut L.length) : (cutL L x).flatten.length ≤ L.flatten.length := by
  have e : L = L.take x.1.1 ++ (cutL L x ++ (L.drop x.1.1).drop (x.1.2 - x.1.1)) := by
    unfold cutL
    rw [List.take_append_drop, List.take_append_drop]
  conv => rhs; rw [e]
  rw [List.flatten_append, List.flatten_append, List.length_append, List.length_append]
  omega
theorem cutValL_form {W : World} {B : Nat} {A : Option Addr} {L : List (List It)} (h : LRd W B A L) (x : Cut L.length) :
    ∃ (A3 : Option Addr) (rl c3 : Nat), cutValL A L.length x = .slice A3 rl c3 ∧ (cutL L x).length = rl ∧ rl ≤ L.length ∧ LRd W B A3 (cutL L x) :=
  ⟨_, _, _, rfl, cutL_length L x, by have := x.2.2; omega, (h.drop x.1.1).take (x.1.2 - x.1.1)⟩

set_option maxHeartbeats 1000000 in
theorem pass_low (A : Option Addr) (n c : Nat) (m : Int) (w : World) (hm : m < 2) :
    Calls Try.prog 15 #[.slice A n c, .int .i64 m] w fun e w' => e = .returned (.tuple #[.slice none 0 0, .int .i64 1]) ∧ Below w.heap.size w w' := by
  refine (callsIn_wide (n := 9)).1 ?_
  refine callsIn_of_wp_marks Try.func15 rfl trivial ?_ rfl
  simp only [Try.ntmps15, List.size_toArray, List.length_cons, List.length_nil, Nat.reduceAdd, Nat.reduceSub, Array.replicate_succ, Array.replicate_zero, List.push_toArray, List.append_toArray, List.nil_append, List.cons_append]
  have hmd : decide (m < 2) = true := decide_eq_true hm
  have hB0 : Below w.heap.size w (w.alloc (.cells #[.slice none 0 0] 30)) := (Below.refl _ _).alloc (Nat.le_refl _) _
  have hx1 : Box (w.alloc (.cells #[.slice none 0 0] 30)) w.heap.size 30 (.slice none 0 0) := Box.new w _ _
  gi_wp2
  have hc := (hx1.set (.slice none 0 0)).cell
  refine ⟨_, by rw [results_cell_tmp rfl]; go_simp, rfl, ?_⟩
  first | exact hB0.setCell (Nat.le_refl _) _ | exact hB0
set_option maxHeartbeats 1000000 in
theorem pass_uns (A : Option Addr) (c : Nat) (L : List (List It)) (m : Int) (w : World) (hl : LRd w w.heap.size A L) (hsh : shortL L) (hm : 2 ≤ m) (hs : sortedL L = false) :
    Calls Try.prog 15 #[.slice A L.length c, .int .i64 m] w fun e w' => e = .returned (.tuple #[.slice none 0 0, .int .i64 40]) ∧ Below w.heap.size w w' := by
  have hso := fun W (h : LRd W W.heap.size A L) => mergeSorted_any W A c L h hsh
  rw [hs] at hso
  refine (callsIn_wide (n := 9)).1 ?_
  refine callsIn_of_wp_marks Try.func15 rfl trivial ?_ rfl
  simp only [Try.ntmps15, List.size_toArray, List.length_cons, List.length_nil, Nat.reduceAdd, Nat.reduceSub, Array.replicate_succ, Array.replicate_zero, List.push_toArray, List.append_toArray, List.nil_append, List.cons_append]
  have hmd : decide (m < 2) = false := decide_eq_false (by omega)
  have hB0 : Below w.heap.size w (w.alloc (.cells #[.slice none 0 0] 30)) := (Below.refl _ _).alloc (Nat.le_refl _) _
  have hx1 : Box (w.alloc (.cells #[.slice none 0 0] 30)) w.heap.size 30 (.slice none 0 0) := Box.new w _ _
  have hl0 : LRd (w.alloc (.cells #[.slice none 0 0] 30)) (w.alloc (.cells #[.slice none 0 0] 30)).heap.size A L := (hl.alloc (Nat.le_refl _) _).more (by rw [World.size_alloc]; omega)
  gi_wp2_with (refine ⟨trivial, ?_⟩; gi_at_call 28; refine (callsIn_wide.2 (hso _ hl0)).mono ?_; rintro e w1 ⟨rfl, hb1⟩; have hB1 := hB0.trans (hb1.mono hB0.size); have hx2 := hx1.below hb1 hx1.lt; have hc1 := hx2.cell; have hf1 := hx2.free)
  have hc := (hx2.set (.slice none 0 0)).cell
  refine ⟨_, by rw [results_cell_tmp rfl]; go_simp, rfl, ?_⟩
  first | exact hB1.setCell (Nat.le_refl _) _ | exact hB1
set_option maxRecDepth 100000 in
set_option maxHeartbeats 4000000 in
theorem pass_ok (A : Option Addr) (c : Nat) (L : List (List It)) (m : Nat) (w : World) (hl : LRd w w.heap.size A L) (hL : L.length ≤ 100000) (hF : L.flatten.length ≤ 1000000) (hcap : L.length ≤ c) (hm : 2 ≤ m) (hm2 : m ≤ 9223372036854775807) (hs : sortedL L = true) :
    Calls Try.prog 15 #[.slice A L.length c, .int .i64 m] w fun e w' => ∃ (A' : Option Addr) (n' c' : Nat) (vs : List Value), e = .returned (.tuple #[.slice A' n' c', .int .i64 0]) ∧
      Own w' w.heap.size 32 1 A' n' c' vs ∧ ILists w' w.heap.size vs (passP m L) ∧ Below w.heap.size w w' := by
  obtain ⟨i0, hi0, hz0, hz1, hz2⟩ := info_parts itemsInfo
  have hsh : shortL L := ⟨by omega, fun r hr => by
    obtain ⟨s, t, rfl⟩ := List.append_of_mem hr
    simp at hF
    omega⟩
  have hso := fun W (h : LRd W W.heap.size A L) => mergeSorted_any W A c L h hsh
  rw [hs] at hso
  have HGC := Lib.hid (group_cut hs)
  refine (callsIn_wide (n := 9)).1 ?_
  refine callsIn_of_wp_marks Try.func15 rfl trivial ?_ rfl
  simp only [Try.ntmps15, List.size_toArray, List.length_cons, List.length_nil, Nat.reduceAdd, Nat.reduceSub, Array.replicate_succ, Array.replicate_zero, List.push_toArray, List.append_toArray, List.nil_append, List.cons_append]
  have hmd : decide ((m : Int) < 2) = false := decide_eq_false (by omega)
  have hB0 : Below w.heap.size w (w.alloc (.cells #[.slice none 0 0] 30)) := (Below.refl _ _).alloc (Nat.le_refl _) _
  have hx1 : Box (w.alloc (.cells #[.slice none 0 0] 30)) w.heap.size 30 (.slice none 0 0) := Box.new w _ _
  have hl0 : LRd (w.alloc (.cells #[.slice none 0 0] 30)) (w.alloc (.cells #[.slice none 0 0] 30)).heap.size A L := (hl.alloc (Nat.le_refl _) _).more (by rw [World.size_alloc]; omega)
  gi_wp2_with (first
    | (refine ⟨trivial, ?_⟩; gi_at_call 29; refine (callsIn_wide.2 (chunkL_any A L.length c m _ (by omega))).mono ?_; rintro e w2 ⟨rfl, rfl⟩)
    | (refine ⟨trivial, ?_⟩; gi_at_call 28; refine (callsIn_wide.2 (hso _ hl0)).mono ?_; rintro e w1 ⟨rfl, hb1⟩))
  have hz1' : w.heap.size + 1 ≤ w1.heap.size := by have := hb1.size; rw [World.size_alloc] at this; exact this
  have hBw : Below w.heap.size w w1 := hB0.trans (hb1.mono hB0.size)
  have hx0 : Box w1 w.heap.size 30 (.slice none 0 0) := hx1.below hb1 hx1.lt
  have hbxa := (Box.new w1 30 (.slice A L.length c)).alloc (.cells #[.int .i64 m] 3)
  have hbxb := Box.new (w1.alloc (.cells #[.slice A L.length c] 30)) 3 (.int .i64 m)
  rw [World.size_alloc] at hbxb
  clear hso hl0 hx1 hs
  refine wpIn_rangeFunc_ownG (F := Fence.wide) (n := 9) rfl (by omega) (gf := 46) (lb := #[.pointer (some ⟨w1.heap.size, 0, none⟩), .pointer (some ⟨w1.heap.size + 1, 0, none⟩)]) rfl trivial (enters_of Try.func46 (by kernel_rfl) rfl)
    (chunkL_stops 8 (by omega) w1.heap.size (w1.heap.size + 1) 0 A c m L (by omega) hcap (by omega) hm2 _ hbxa hbxb) Kept2.trans (Kept2.put (Nat.zero_le _) hbxa.lt hbxb.lt) (Below.refl _ _) (fun _ => rfl)
    (fun pre W => ∃ (Ao : Option Addr) (no co : Nat) (vs : List Value) (ps : List (List It)), PassSt w (w1.heap.size + 1) W Ao no co vs ps ∧ no ≤ pre.length ∧ ps = (pre.map (cutL L)).map (fun p => resolve p.flatten)) (fun _ _ _ => False) ?hI (fun _ _ _ _ _ hs _ _ => hs) ?h0
    (fun x => { tmps := #[.slice A L.length c, .int .i64 m, undef, undef,
          .pointer (some { block := w.heap.size, off := 0 }), .int .i64 0, cutValL A L.length x, .bool false,
          .int .i64 m, .bool false, .bool false, .slice A L.length c, .bool true,
          .bool false, .slice A L.length c, .int .i64 m,
          .func (Fn.func 46) #[] #[.pointer (some { block := w1.heap.size, off := 0 }), .pointer (some { block := w1.heap.size + 1, off := 0 })],
          cutValL A L.length x, undef, undef, undef, undef, undef, undef], defers := [] }) ?assign ?body ?done ?stop
  case hI =>
    rintro pre W W' row ⟨Ao, no, co, vs, ps, hst, hr⟩ hg hrow
    exact ⟨Ao, no, co, vs, ps, hst.turn hg (fun r e => ⟨by have := (hrow r e).1; rw [World.size_alloc, World.size_alloc] at this; omega, (hrow r e).2⟩), hr⟩
  case h0 =>
    refine ⟨none, 0, 0, [], [], ⟨(hx0.alloc _).alloc _, Own.nil, ILists.nil, by omega, by rw [World.size_alloc, World.size_alloc]; omega, (hBw.alloc (by omega) _).alloc (by rw [World.size_alloc]; omega) _⟩, Nat.le_refl _, rfl⟩
  case assign =>
    intro r x W K hK
    gi_wp2
    exact hK
  case body =>
    rintro r pre x W ⟨Ao, no, co, vs, ps, hst, hno1, hps⟩ hlt
    have HSt := Lib.hid hst
    have HPS := Lib.hid hps
    obtain ⟨hbox, hown, hlist, hBn, hBW, hB⟩ := hst
    have hc := hbox.cell
    have hwW : w.heap.size < W.heap.size := hbox.lt
    have hbo := hbox.free
    obtain ⟨A3, rl, c3, hpv, hrl, hrl2, hrd⟩ := cutValL_form (hl.below hB) x
    simp only [hpv]
    have hvl := Own.vals_len' hown
    have hfl := cutL_flat L x
    have hres := fun (W0 : World) (h : LRd W0 W0.heap.size A3 (cutL L x)) => group_any A3 c3 (cutL L x) W0 h (by omega) (by omega)
    rw [hrl, HGC.out x] at hres
    have hRl : (resolve (cutL L x).flatten).length ≤ 1000000 := by have := resolve_len (cutL L x).flatten; omega
    obtain ⟨R, hR⟩ : ∃ R, resolve (cutL L x).flatten = R := ⟨_, rfl⟩
    rw [hR] at hres hRl
    obtain ⟨k, hk⟩ : ∃ k, R.length = k := ⟨_, rfl⟩
    have HK := Lib.hid hk
    have HR := Lib.hid hR
    rw [hk] at hres hRl
    have HC : W.drew.cell? ⟨w.heap.size, 0, none⟩ = some (.slice Ao no co) := hc
    have hnb : no ≤ 100000 := by omega
    have hrd2 : LRd W W.heap.size A3 (cutL L x) := hrd.more hB.size
    clear hl hbxa hbxb hps hpv hk hR hlist hrd hfl
    gi_wp2
    refine region_wz_round (fun W' => W'.cell? ⟨w.heap.size, 0, none⟩ = some (.slice Ao no co)) (some 5) (by kernel_rfl) (by kernel_rfl) ?_
    apply WZ.take (i := 0) (some 18) rfl rfl (by kernel_rfl) (by kernel_rfl) (by kernel_rfl) (calm_panic _) (by kernel_rfl)
    case hy => (refine .inl ⟨by kernel_rfl, fun W hC => ?_⟩; (try dsimp only at hC); go_simp; rfl)
    case hC => exact HC
    case ha => (simp only [Act.put, List.setIfInBounds_toArray, List.set_cons_zero, List.set_cons_succ]; rfl)
    apply WZ.take (i := 1) (some 19) rfl rfl (by kernel_rfl) (by kernel_rfl) (by kernel_rfl) (calm_panic _) (by kernel_rfl)
    case hy => (refine .inl ⟨by kernel_rfl, fun W hC => ?_⟩; (try dsimp only at hC); go_simp; rfl)
    case hC => exact HC
    case ha => (simp only [Act.put, List.setIfInBounds_toArray, List.set_cons_zero, List.set_cons_succ]; rfl)
    -- 2
    refine WZ.one (i := 2) rfl (by kernel_rfl) ?_
    conv => arg 4; arg 1; whnf
    go_wp2_with (go_at_call 21; refine (hres _ hrd2.drew).mono ?_; rintro e w2 ⟨A2, c2, rfl, ho2, hb2⟩)
    have HC := (hb2.cell (p := ⟨w.heap.size, 0, none⟩) hwW).trans HC
    refine ⟨HC, ?_⟩
    -- 3
    refine WZ.one (i := 3) rfl (by kernel_rfl) ?_
    conv => arg 4; arg 1; whnf
    go_wp2_with (fail)
    have HC := (World.cell?_alloc_lt w2 (.cells #[.slice A2 k c2] 32) ⟨w.heap.size, 0, none⟩ (Nat.lt_of_lt_of_le hwW hb2.size)).trans HC
    refine ⟨HC, ?_⟩
    -- 4
    refine WZ.one (i := 4) rfl (by kernel_rfl) ?_
    conv => arg 4; arg 1; whnf
    have hown2 := Own.alloc (Own.below hown.drew hb2) (.cells #[.slice A2 k c2] 32)
    go_wp2_with (at_builtin; go_loud (refine wpList_app _ rfl _ _ _ rfl (w1.heap.size + 1 + 1) 32 i0 (.slice none 0 0) 1 24 Try.underlying30 hi0 hz0 hz1 hz2 rfl (by decide) Ao no co vs rfl hown2 (w2.heap.size + 1) (some ⟨w2.heap.size, 0, none⟩) 1 1 [.slice A2 k c2] rfl (Rd.new1 _ _ _) rfl (by simp [Value.oneCell']) (by unfold maxLen; omega) (by omega) (by rw [World.size_alloc]; exact Nat.le_succ_of_le (Nat.le_trans hBW hb2.size)) ?_); intro A5 c5 w3 ho3 hg3 hat3)
    have hne2 : some w.heap.size ≠ blk Ao := fun e => by have := (hown2.lt _ e.symm).1; omega
    have hbo3 : w.heap.size < (w2.alloc (.cells #[.slice A2 k c2] 32)).heap.size := by rw [World.size_alloc]; exact Nat.lt_succ_of_lt (Nat.lt_of_lt_of_le hwW hb2.size)
    have hf3 : w3.frozen? ⟨w.heap.size, 0, none⟩ = false := (hg3.frozen_far ⟨w.heap.size, 0, none⟩ hbo3 hne2).trans ((World.frozen?_of_block (a := ⟨w.heap.size, 0, none⟩) (Below.heap_alloc w2 _ _ (Nat.lt_of_lt_of_le hwW hb2.size))).trans ((hb2.frozen (p := ⟨w.heap.size, 0, none⟩) hwW).trans hbo))
    have HC := (hg3.cell_far ⟨w.heap.size, 0, none⟩ hbo3 hne2).trans HC
    refine ⟨HC, ?_⟩
    -- 5
    refine WZ.last (i := 5) rfl (by kernel_rfl) (by kernel_rfl) ?_
    conv => arg 4; arg 1; whnf
    go_wp2_with (fail)
    refine WZ.done (by kernel_rfl) ?_ _
    simp only [Calm, Exit.then]
    have HF := Lib.hid (HSt.out.new (R := R) (w2 := w2) (w3 := w3) HK.out ho2 (below_of_drew' hb2) ho3 hg3 w1.heap.size (by omega) (by omega))
    gi_wp2
    refine ⟨HF.out.2.1.from _, HF.out.2.2, _, _, _, _, _, HF.out.1, by rw [List.length_append]; exact Nat.succ_le_succ hno1, ?_⟩
    rw [List.map_append, List.map_append, ← HPS.out, ← HR.out]
    rfl
  case done =>
    rintro D xs W hD hS ⟨Ao, no, co, vs, ps, hst, hno1, hps⟩ hK
    have hbox := hst.box
    have hboW : w.heap.size < W.heap.size := hbox.lt
    have hbo := hbox.free
    have hc := hbox.cell
    clear hl hbxa hbxb
    have hD1 : w1.heap.size + 2 ≤ D := by rw [World.size_alloc, World.size_alloc] at hD; exact hD
    have HPS := Lib.hid hps
    have HSt := Lib.hid hst
    clear hps hst
    have hK4 : (W.setCell ⟨w.heap.size, 0, none⟩ (.slice Ao no co)).heap[D]? = some (.deferred (some [])) := (Below.heap_setCell _ _ _ _ (by show D ≠ w.heap.size; omega)).trans hK
    obtain ⟨hbox, hown, hlist, hBn, hBW, hB⟩ := HSt.out
    have h4 : PassSt w (w1.heap.size + 1) (W.setCell ⟨w.heap.size, 0, none⟩ (.slice Ao no co)) Ao no co vs ps :=
      ⟨hbox.set _, hown.setCell (fun e => by have h1 := (hown.lt _ e).1; have h2 : w1.heap.size + 1 + 1 ≤ w.heap.size := h1; omega) _,
        ⟨hlist.1, fun i hi hi' => by
          obtain ⟨A, c, e, ho⟩ := hlist.2 i hi hi'
          exact ⟨A, c, e, ho.setCell (fun e => by have h1 := (ho.lt _ e).1; have h2 : w1.heap.size + 1 + 1 ≤ w.heap.size := h1; omega) _⟩⟩,
        hBn, by simp [World.setCell]; omega, hB.setCell (Nat.le_refl _) _⟩
    have h5 := h4.turn (grownBy_putObj' _ D (.deferred none)) (fun r e => by injection e with e; subst e; exact ⟨by omega, _, hK4, rfl⟩)
    have HT := Lib.hid hK4
    clear hK hK4 hlist hown
    gi_wp2
    refine ⟨by simp, .inl ⟨_, _, rfl, run_takeDeferred HT.out, ?_⟩⟩
    have hbx5 := h5.box.cell
    refine ⟨_, by rw [results_cell_tmp rfl]; go_simp; rfl, ?_⟩
    refine ⟨Ao, no, co, vs, rfl, h5.own.lower (by omega), ?_, h5.below⟩
    have hr5 : passP m L = ps := by unfold passP; rw [HPS.out, hS]
    rw [hr5]
    exact h5.lists.lower (by omega)
  case stop =>
    rintro D c pre W _ _ h _
    exact h.elim
end Go.Proofs.Ytflppcgonbjnmaa
namespace Go.Proofs.Ytflppcgonbjnmaa
open Go.RowKit
attribute [local go_sem ↓] Go.wp_at_zero Go.wp_at_succ

def sliceLen (v : Value) : Nat := match v with | .slice _ n _ => n | _ => 0
theorem map_resolve_len : ∀ P : List (List (List It)), (P.map fun p => resolve p.flatten).flatten.length ≤ P.flatten.flatten.length
  | [] => Nat.le_refl _
  | p :: P => by
    have h1 := map_resolve_len P
    have h2 := resolve_len p.flatten
    simp only [List.map_cons, List.flatten_cons, List.length_append, List.flatten_append] at h1 ⊢
    omega
theorem pass_flat {m : Nat} (hm : 1 ≤ m) (L : List (List It)) : (passP m L).flatten.length ≤ L.flatten.length := by
  have := map_resolve_len (chunksL m L)
  rw [chunksL_flat hm] at this
  exact this
theorem Own.cap {w : World} {base e size n c : Nat} {A : Option Addr} {xs : List Value} (h : Own w base e size A n c xs) : n ≤ c := by
  rcases h.2 with ⟨_, h2⟩ | ⟨g, cap, cur, hv, hb, hg, h3, h4, h5, h6⟩
  · omega
  · injection hv with _ _ hc
    omega
/-- between two passes -/
structure AllW (w wr : World) (m : Nat) (L : List (List It)) (A : Option Addr) (n c : Nat) (M : List (List It)) (k : Nat) : Prop where
  rd : LRd wr wr.heap.size A M
  hn : M.length = n
  hc : n ≤ c
  ai : AllI m L M k
  fl : M.flatten.length ≤ L.flatten.length
  be : Below w.heap.size w wr
theorem AllI.len {m : Nat} {L M : List (List It)} {k : Nat} (h : AllI m L M k) (hm : 2 ≤ m) : k ≤ L.length := by
  have key : ∀ n, passN m n ≤ n := by
    intro n
    induction n using Nat.strongRecOn with
    | ind n ih =>
      by_cases h2 : 2 ≤ n
      · rw [passN_more hm h2]
        have h1 := ceil_lt hm h2
        have := ih _ h1
        omega
      · rw [passN_le (by omega)]
        omega
  have := h.nn
  have := key L.length
  omega
theorem AllW.next {w wr w' : World} {m : Nat} {L : List (List It)} {A : Option Addr} {n c : Nat} {M : List (List It)} {k : Nat} (h : AllW w wr m L A n c M k) (hm : 2 ≤ m) (h2 : 2 ≤ n) {A' : Option Addr} {n' c' : Nat} {vs : List Value} (ho : Own w' wr.heap.size 32 1 A' n' c' vs) (hi : ILists w' wr.heap.size vs (passP m M)) (hb : Below wr.heap.size wr w') :
    AllW w w' m L A' n' c' (passP m M) (k + 1) ∧ n' < n := by
  obtain ⟨h3, h4⟩ := hi.lrd ho
  have hn := h.hn
  have h5 := ceil_lt hm (show 2 ≤ M.length by omega)
  have h6 := pass_len (show 1 ≤ m by omega) M
  exact ⟨⟨h3, h4.symm, ho.cap, h.ai.next hm (by omega), Nat.le_trans (pass_flat (by omega) M) h.fl, h.be.trans (hb.mono h.be.size)⟩, by omega⟩
set_option maxHeartbeats 1000000 in
theorem all_low (A : Option Addr) (n c : Nat) (m : Int) (w : World) (hm : m < 2) :
    Calls Try.prog 19 #[.slice A n c, .int .i64 m] w fun e w' => e = .returned (.tuple #[.slice none 0 0, .int .i64 0, .int .i64 1]) ∧ Below w.heap.size w w' := by
  have HP := Lib.hid (pass_low A n c m w hm)
  go_enter Try.func19, Try.ntmps19
  go_wp2_with (go_at_call 15; refine HP.out.mono ?_; rintro e w1 ⟨rfl, hb1⟩)
  go_ret3
  exact ⟨rfl, hb1⟩
set_option maxHeartbeats 1000000 in
theorem all_uns (A : Option Addr) (c : Nat) (L : List (List It)) (m : Int) (w : World) (hl : LRd w w.heap.size A L) (hsh : shortL L) (hm : 2 ≤ m) (hs : sortedL L = false) :
    Calls Try.prog 19 #[.slice A L.length c, .int .i64 m] w fun e w' => e = .returned (.tuple #[.slice none 0 0, .int .i64 0, .int .i64 40]) ∧ Below w.heap.size w w' := by
  have HP := Lib.hid (pass_uns A c L m w hl hsh hm hs)
  generalize L.length = n at HP ⊢
  go_enter Try.func19, Try.ntmps19
  go_wp2_with (go_at_call 15; refine HP.out.mono ?_; rintro e w1 ⟨rfl, hb1⟩)
  go_ret3
  exact ⟨rfl, hb1⟩
set_option maxRecDepth 20000 in
set_option maxHeartbeats 4000000 in
theorem all_ok (A : Option Addr) (c : Nat) (L : List (List It)) (m : Nat) (w : World) (hl : LRd w w.heap.size A L) (hL : L.length ≤ 100000) (hF : L.flatten.length ≤ 1000000) (hcap : L.length ≤ c) (hm : 2 ≤ m) (hm2 : m ≤ 9223372036854775807) (hs : sortedL L = true) :
    Calls Try.prog 19 #[.slice A L.length c, .int .i64 m] w fun e w' => ∃ (A' : Option Addr) (c' : Nat), e = .returned (.tuple #[.slice A' (resolve L.flatten).length c', .int .i64 ((passN m L.length : Nat) : Int), .int .i64 0]) ∧
      Own w' w.heap.size 59 7 A' (resolve L.flatten).length c' (its (resolve L.flatten)) ∧ Below w.heap.size w w' := by
  have HP0 := Lib.hid (pass_ok A c L m w hl hL hF hcap hm hm2 hs)
  have HW0 := Lib.hid (show AllW w w m L A L.length c L 0 from ⟨hl, rfl, hcap, AllI.start hs, Nat.le_refl _, Below.refl _ _⟩)
  obtain ⟨N, hN⟩ : ∃ N, L.length = N := ⟨_, rfl⟩
  have HN := Lib.hid hN
  rw [hN] at HP0 HW0 hL ⊢
  clear hl hN hcap hs
  go_enter Try.func19, Try.ntmps19
  go_wp2_with (go_at_call 15; refine HP0.out.mono ?_; rintro e w1 ⟨Ax, nx, cx, vx, rfl, -, -, hb1⟩; have HW1 := Lib.hid (show AllW w w1 m L A N c L 0 from ⟨(HW0.out.rd.below hb1).more hb1.size, HN.out, HW0.out.hc, HW0.out.ai, Nat.le_refl _, hb1⟩); clear hb1)
  go_loopw [0, 5] (fun v0 v5 wr => ∃ A n c M k, v0 = .slice A n c ∧ v5 = .int .i64 ((k : Nat) : Int) ∧ Hid (AllW w wr m L A n c M k)) (fun v0 _ _ => sliceLen v0)
  case atStart => exact ⟨A, N, c, L, 0, rfl, rfl, HW1⟩
  case round =>
    clear HW0 HP0 HW1
    obtain ⟨A2, n, c2, M, k, rfl, rfl, HW⟩ := hrel
    rename World => wr
    have HNM := Lib.hid HW.out.hn
    have HKL := Lib.hid (HW.out.ai.len hm)
    have HNL := Lib.hid (show n ≤ N by have h1 := HW.out.ai.le; have h2 := HW.out.hn; have h3 := HN.out; omega)
    by_cases h2 : 2 ≤ n
    · have e1 : decide ((1 : Int) < (n : Int)) = true := decide_eq_true (by omega)
      have e2 : 1 < n := by omega
      have hwk : IntKind.i64.wrap ((k : Int) + 1) = ((k + 1 : Nat) : Int) := by have h1 := HKL.out; have h3 := HN.out; rw [IntWalk.i64_in _ (by omega)]; omega
      have hp := pass_ok A2 c2 M m wr HW.out.rd (by have h1 := HNM.out; have h3 := HNL.out; omega) (Nat.le_trans HW.out.fl hF) (by rw [HNM.out]; exact HW.out.hc) hm hm2 HW.out.ai.so
      rw [HNM.out] at hp
      have HP := Lib.hid hp
      clear hp
      go_wp2_with (go_at_call 15; refine HP.out.mono ?_; rintro e w2 ⟨A3, n3, c3, vs, rfl, ho, hi, hb2⟩; obtain ⟨h8, h9⟩ := HW.out.next hm h2 ho hi hb2; have HF := Lib.hid h8; have HLT := Lib.hid h9; clear h8 h9 ho hi hb2)
      exact ⟨⟨A3, n3, c3, _, k + 1, rfl, by first | rfl | go_num, HF⟩, HLT.out⟩
    · have e1 : decide ((1 : Int) < (n : Int)) = false := decide_eq_false (by omega)
      have e2 : ¬ 1 < n := by omega
      by_cases h0 : n = 0
      · subst h0
        have hM : M = [] := List.eq_nil_of_length_eq_zero HNM.out
        have hL0 : L = [] := by
          by_cases h : L = []
          · exact h
          · exact absurd hM (HW.out.ai.ne h)
        subst hL0
        have hk : k = 0 := by have := HKL.out; simpa using this
        have hN0 : N = 0 := by have := HN.out; simpa using this.symm
        subst hk
        subst hN0
        have HB := Lib.hid HW.out.be
        clear HW HN HNM HKL HNL
        go_wp2
        go_ret3
        exact ⟨none, 0, by rw [passN_le (by omega)]; rfl, Own.nil, HB.out⟩
      · have h1 : n = 1 := by omega
        subst h1
        have hLn : L ≠ [] := by
          rintro rfl
          have h3 := HW.out.ai.le
          have h4 := HNM.out
          simp at h3
          rw [h3] at h4
          simp at h4
        obtain ⟨hM, hk⟩ := HW.out.ai.one (by have := HNM.out; omega) hLn
        subst hM
        subst hk
        obtain ⟨b, o, A4, c4, rfl, hb, hc, hc4, hr⟩ := HW.out.rd.get (k := 0) (by simp)
        simp only [List.getElem_cons_zero, Nat.add_zero] at hc hc4 hr
        have HCL := Lib.hid (cloneIt_any A4 c4 (resolve L.flatten) wr hr (by have := resolve_len L.flatten; omega))
        have HB := Lib.hid HW.out.be
        rw [HN.out]
        obtain ⟨rl, hrl⟩ : ∃ rl, (resolve L.flatten).length = rl := ⟨_, rfl⟩
        have HRL := Lib.hid hrl
        rw [hrl] at HCL hc
        clear hr hc4 hrl
        go_wp2_with (go_at_call 31; refine HCL.out.mono ?_; rintro e w2 ⟨A5, c5, rfl, ho5, hb5⟩)
        go_ret3
        exact ⟨A5, c5, by rw [HRL.out]; rfl, by rw [HRL.out]; exact ho5.lower HB.out.size, HB.out.trans (hb5.mono HB.out.size)⟩
end Go.Proofs.Ytflppcgonbjnmaa
