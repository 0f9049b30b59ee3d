/-
  The walk of a sequence of cells that is collected.
-/
import Derived.Test.YtijicefakfpdcaaEncode
import Derived.Test.YtijicefakfpdcaaOnRow
import Derived.RangeFuncLeaves
import Derived.Shelf.Abstract
import Derived.OwnWalkIn
import Derived.TacticsInMore
import Derived.LoopNIn
import Derived.LoopIn
import Derived.Shelf.RegionOpen
namespace Go.Proofs.Ytijicefakfpdcaa

open Go Go.RowKit Go.Shelf
attribute [local go_sem ↓] Go.wp_at_zero Go.wp_at_succ
attribute [local go_sem] Oper.semAt_some

/-- the zero of a cell -/
def zeroCell : Value := .agg #[.string ⟨#[]⟩, .string ⟨#[]⟩, .int .u64 0, .int .u64 0, .bool false, .string ⟨#[]⟩]
theorem cellInfo12 : (Try.prog.info? 31).map (fun i => (i.zero, i.size, i.bytes)) = some (some zeroCell, 6, 72) := by kernel_rfl
theorem wpListIn_app {F : Fence} {nF : Nat} {P : Program} {w : World} {ops : Array Oper} {rest : List Oper} {o : Oper} {a : Act} {Q : Exit → Act → World → Prop} (hgd : o.guard = none) (s x : Operand) (t : TypeId)
    (ho : o.op = .call { callee := .builtin .append, args := #[s, x], argTypes := #[t, t] })
    (base : Nat) (e : TypeId) (i : TypeInfo) (z : Value) (size bytes : Nat) (ht : P.underlying t = some (.slice e)) (hi : P.info? e = some i) (hz : i.zero = some z)
    (hsize : i.size = size) (hby : i.bytes = bytes) (hzs : z.cells.size = size) (hsz : 0 < size)
    (A : Option Addr) (n c : Nat) (xs : List Value) (hs : a.eval s = .slice A n c) (hown : Own w base e size A n c xs)
    (B : Nat) (A2 : Option Addr) (m c2 : Nat) (news : List Value) (hx : a.eval x = .slice A2 m c2) (hr : Rd w B A2 news) (hl : news.length = m * size) (h1 : ∀ u ∈ news, u.oneCell' = true)
    (h63 : n + m ≤ maxLen) (hbytes : (n + m) * bytes ≤ 140737488355328) (hbase : base ≤ w.heap.size)
    (h : ∀ A' c' w', Own w' base e size A' (n + m) c' (xs ++ news) → w.grownBy w' (blk A) → (blk A' = blk A ∨ blk A' = some w.heap.size) → wpListIn F nF P ops Q rest (a.put o.dst (.slice A' (n + m) c')) w') : wpListIn F nF P ops Q (o :: rest) a w := by
  refine wpListIn_plain hgd fun _ hK => ?_
  obtain ⟨A', c', w', hrun, h2, h3, h4⟩ := run_app (P := P) w base t o.type e i z size bytes ht hi hz hsize hby hzs hsz A n c xs hown B A2 m c2 news hr hl h1 h63 hbytes hbase
  unfold Oper.wpIn
  refine ⟨by simp [Oper.about, ho, resolve, Target.leads, Sem.run_pure], ?_⟩
  rw [Oper.semAt_plain F _ _ (by rw [ho]; intro c hc'; cases hc')]
  simp only [execOp, ho, resolve, invoke, builtin, Sem.run_bind, Sem.run_pure, Result.andThen_ok, List.map_toArray, List.map_cons, List.map_nil, hs, hx, hrun]
  exact hK _ _ (h A' c' w' h2 h3 h4)
theorem Flow.later {α : Type} {F : Fence} {n : Nat} {P : Program} {g : Nat} {lb : Array Value} {encs : α → Array Value} {n0 : Nat} {boxes : List Nat} {xs : List α} {w w2 : World} (h : Flow F n P g lb encs n0 boxes xs w) (hb : Below w.heap.size w w2) : Flow F n P g lb encs n0 boxes xs w2 :=
  fun l J own W hW hWs => h l J own W (fun k hk => (hW k (Nat.lt_of_lt_of_le hk hb.size)).trans (hb.block k hk)) (Nat.le_trans hb.size hWs)
/-- what the loop over a sequence keeps: a box with a slice of its own -/
structure SeqSt (w : World) (W : World) (own : List Nat) (A : Option Addr) (c : Nat) (pre : List Cl) : Prop where
  box : Box W w.heap.size 22 (.slice A pre.length c)
  row : Own W (w.heap.size + 1) 31 6 A pre.length c (vals pre)
  below : Below w.heap.size w W
  ow : own = w.heap.size :: (blk A).toList
theorem SeqSt.still {w W W' : World} {own : List Nat} {A : Option Addr} {c N : Nat} {pre : List Cl} (h : SeqSt w W own A c pre) (hs : Still N own W W') (hN : w.heap.size ≤ N) : SeqSt w W' own A c pre := by
  refine ⟨(hs.block _ h.box.lt (.inr (by rw [h.ow]; simp))).trans h.box, h.row.keep fun k hk => hs.block k (h.row.lt k hk).2 (.inr (by rw [h.ow]; simp [hk])), ?_, h.ow⟩
  have hb := h.below
  exact hb.trans ⟨hs.os, hs.tape, hs.output, hs.size, fun k hk => hs.block k (Nat.lt_of_lt_of_le hk hb.size) (.inl (by omega))⟩
theorem SeqSt.lies {w W : World} {own : List Nat} {A : Option Addr} {c : Nat} {pre : List Cl} (h : SeqSt w W own A c pre) : ∀ k ∈ own, w.heap.size ≤ k ∧ k < W.heap.size := by
  intro k hk
  rw [h.ow] at hk
  rcases List.mem_cons.1 hk with rfl | hk
  · exact ⟨Nat.le_refl _, h.box.lt⟩
  · have := h.row.lt k (by cases hA : blk A with | none => rw [hA] at hk; cases hk | some j => rw [hA] at hk; simp at hk; rw [hk])
    exact ⟨by omega, this.2⟩

set_option maxRecDepth 100000 in
set_option maxHeartbeats 4000000 in
theorem appendSeq_any (Bn Bo n0 : Nat) (xs : List Cl) (w : World) (hxs : xs.length ≤ 1000) (hn0 : n0 ≤ w.heap.size) (hBn : Bn < w.heap.size) (hBo : Bo < w.heap.size)
    (hseq : ∀ n, Flow Fence.wide n Try.prog 36 #[.pointer (some ⟨Bn, 0, none⟩), .pointer (some ⟨Bo, 0, none⟩)] (fun c : Cl => #[c.agg]) n0 [Bn, Bo] xs w) :
    Calls Try.prog 35 #[.slice none 0 0, .func (.func 36) #[] #[.pointer (some ⟨Bn, 0, none⟩), .pointer (some ⟨Bo, 0, none⟩)]] w fun e w' =>
      ∃ (A' : Option Addr) (c' : Nat), e = .returned (.slice A' xs.length c') ∧ Own w' (w.heap.size + 1) 31 6 A' xs.length c' (vals xs) ∧ Below w.heap.size w w' := by
  obtain ⟨i0, hi0, hz0, hz1, hz2⟩ := info_parts cellInfo12
  have hSeq := Lib.hid hseq
  clear hseq
  have hB1 : Below w.heap.size w (w.alloc (.cells #[.slice none 0 0] 22)) := (Below.refl _ _).alloc (Nat.le_refl _) _
  have hX := Box.new w 22 (.slice none 0 0)
  refine (callsIn_wide (n := 9)).1 ?_
  refine callsIn_of_wp_marks Try.func35 rfl trivial ?_ rfl
  simp only [Try.ntmps35, List.size_toArray, List.length_cons, List.length_nil, Nat.reduceAdd, Nat.reduceSub, Array.replicate_succ, Array.replicate_zero, List.push_toArray, List.append_toArray, List.nil_append, List.cons_append]
  gi_wp2
  refine wpIn_flow (F := Fence.wide) (n := 9) rfl rfl (gf := 36) (lb := #[.pointer (some ⟨Bn, 0, none⟩), .pointer (some ⟨Bo, 0, none⟩)]) rfl trivial (enters_of Try.func36 (by kernel_rfl) rfl) (fun _ => rfl)
    ((hSeq.out (9 - 1)).later hB1) (by rw [World.size_alloc]; omega) (by intro k hk; rw [World.size_alloc]; simp only [List.mem_cons, List.not_mem_nil, or_false] at hk; omega)
    (fun pre own1 Wx => ∃ A c, SeqSt w Wx own1 A c pre) ?hI [w.heap.size] ?how ?h0 ?hround ?hdone
  case hI =>
    rintro pre own1 X Y ⟨A, c, h⟩ hs
    exact ⟨A, c, h.still hs (by rw [World.size_alloc]; omega)⟩
  case how =>
    intro j hj
    simp only [List.mem_singleton] at hj
    subst hj
    refine ⟨hn0, ?_, by rw [World.size_alloc]; omega⟩
    simp only [List.mem_cons, List.not_mem_nil, or_false, not_or]
    omega
  case h0 => exact ⟨none, 0, hX, Own.nil, hB1, rfl⟩
  case hround =>
    rintro r pre x own1 Wx hr ⟨A, c, h⟩ hin hpre
    have HR := Lib.hid (And.intro hr (And.intro h hpre))
    clear hr h hin hpre hX hB1
    gi_wp2
    refine ⟨(Below.refl _ _).alloc (Nat.le_refl _) _, ?_⟩
    rintro W2 hT ⟨A2, c2, h2⟩
    have hb2 : CBox W2 Wx.heap.size x := (CBox.new Wx x).keep (hT.block _ (by have := HR.out.1; omega))
    have hlen : pre.length + 1 ≤ 1000 := by
      obtain ⟨z, hz⟩ := HR.out.2.2
      have := congrArg List.length hz
      simp at this
      omega
    obtain ⟨q0, q1, q2, q3, q4, q5⟩ := hb2.cells
    have hbx := h2.box.cell
    have H2 := Lib.hid h2
    have hbw := h2.below.size
    have hblt := h2.box.lt
    clear hb2 h2 hT
    have hrd : Rd (W2.alloc (.cells #[.string x.row, .string x.col, .int .u64 x.ts, .int .u64 x.seq, .bool x.del, .string x.val] 31)) (W2.heap.size + 1) (some ⟨W2.heap.size, 0, none⟩) (vals [x]) := by
      have := Rd.ofBlock (CBox.new W2 x) (xs := vals [x]) (by simp [vals, Cl.vals])
      rwa [World.size_alloc] at this
    have HRD := Lib.hid hrd
    clear hrd
    gi_wp2_with (gi_at_builtin; go_loud (refine wpListIn_app rfl _ _ _ rfl (w.heap.size + 1) 31 i0 zeroCell 6 72 Try.underlying22 hi0 hz0 hz1 hz2 rfl (by decide) A2 pre.length c2 (vals pre) rfl (Own.alloc H2.out.row _) (W2.heap.size + 1) (some ⟨W2.heap.size, 0, none⟩) 1 1 (vals [x]) rfl HRD.out (by rw [length_vals]; rfl) (vals_one _) (by unfold maxLen; omega) (by omega) (by rw [World.size_alloc]; omega) ?_); intro A3 c3 w3 ho3 hg3 hor3; have hne : some w.heap.size ≠ blk A2 := (fun e => by have := (H2.out.row.lt _ e.symm).1; omega); have hbx3 := (H2.out.box.alloc _).grown hg3 hne; have hfr3 := hbx3.free; have hcl3 := hbx3.cell; have HB3 := Lib.hid hbx3; have HO3 := Lib.hid ho3; have HG3 := Lib.hid (And.intro hg3 hor3); clear hbx hbx3 ho3 hg3 hor3)
    have hl : (pre ++ [x]).length = pre.length + 1 := by simp
    have hz3 := HG3.out.1.size
    rw [World.size_alloc] at hz3
    have h3 : ∀ k, blk A3 = some k → w.heap.size + 1 ≤ k ∧ k < w3.heap.size := fun k hk => HO3.out.lt k hk
    refine ⟨w.heap.size :: (blk A3).toList, ⟨A3, c3, ⟨by rw [hl]; exact HB3.out.set _, ?_, ?_, rfl⟩⟩, ?_⟩
    · rw [hl, ← vals_append]
      exact HO3.out.setCell (fun e => by have := (h3 _ e).1; simp only at this; omega) _
    · refine (H2.out.below.trans ?_)
      have hb := (Below.refl w.heap.size W2).alloc hbw (.cells #[.string x.row, .string x.col, .int .u64 x.ts, .int .u64 x.seq, .bool x.del, .string x.val] 31)
      exact (hb.grown HG3.out.1 (by rw [World.size_alloc]; omega) (fun k hk => by have := (H2.out.row.lt k hk).1; omega)).setCell (Nat.le_refl _) _
    · refine ⟨HG3.out.1.os, HG3.out.1.tape, HG3.out.1.output, by simp [World.setCell]; omega, fun k hk hn => ?_, fun k hk => ?_, fun k hk => ?_⟩
      · rw [H2.out.ow] at hn
        simp only [List.mem_cons, not_or] at hn
        refine (Below.heap_setCell _ _ _ _ hn.1).trans ((HG3.out.1.block k (by rw [World.size_alloc]; omega) ?_).trans (Below.heap_alloc _ _ _ hk))
        intro e
        exact hn.2 (by rw [← e]; simp)
      · rcases List.mem_cons.1 hk with rfl | hk
        · exact .inl (by rw [H2.out.ow]; simp)
        · rcases HG3.out.2 with e | e
          · rw [e] at hk
            exact .inl (by rw [H2.out.ow]; simp [hk])
          · rw [e, World.size_alloc] at hk
            simp only [Option.toList_some, List.mem_singleton] at hk
            exact .inr (by omega)
      · have hs : (w3.setCell ⟨w.heap.size, 0, none⟩ (.slice A3 (pre.length + 1) c3)).heap.size = w3.heap.size := by simp [World.setCell]
        rw [hs]
        rcases List.mem_cons.1 hk with rfl | hk
        · omega
        · cases hA : blk A3 with
          | none => rw [hA] at hk; cases hk
          | some j => rw [hA] at hk; simp at hk; subst hk; exact (h3 _ hA).2
  case hdone =>
    rintro D own' Wd ⟨A, c, h⟩ hmv hD1 hD2 hD3 hD4
    have hbx := h.box.cell
    have hln := h.lies
    have h2 := h.still (Still.putObj (n0 := w.heap.size) (own := own') Wd (.deferred none) (by rw [World.size_alloc] at hD1; omega) hD3) (Nat.le_refl _)
    have H := Lib.hid h2
    have HD := Lib.hid hD4
    clear h h2 hD4 hX hB1
    gi_wp2
    refine ⟨by simp, .inl ⟨_, _, rfl, run_takeDeferred HD.out, ?_⟩⟩
    exact ⟨_, results_tmp rfl _ _ _, A, c, rfl, H.out.row, H.out.below⟩
end Go.Proofs.Ytijicefakfpdcaa

