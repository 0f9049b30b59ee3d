/-
  Iterators that write blocks of their own while they are under way: what the one side writes, and the other one leaves. Plain words, and a law of the range over such an iterator.
-/
import Derived.Test.YtoligmmjmghgnaaCmpOrd
import Derived.RangeFuncBox
import Derived.RangeFuncCalls
import Derived.RangeFuncLeaves
namespace Go.Proofs.Ytoligmmjmghgnaa
open Go Go.RowKit

/-- from W to W' nothing is written that lay below n0, or that is of the own blocks -/
structure Still (n0 : Nat) (own : List Nat) (W W' : World) : Prop where
  os : W'.os = W.os
  tape : W'.tape = W.tape
  output : W'.output = W.output
  size : W.heap.size ≤ W'.heap.size
  block : ∀ k, k < W.heap.size → k < n0 ∨ k ∈ own → W'.heap[k]? = W.heap[k]?
/-- from W to W' own blocks alone are written; there may be more of them then, all new -/
structure Mv (own own' : List Nat) (W W' : World) : Prop where
  os : W'.os = W.os
  tape : W'.tape = W.tape
  output : W'.output = W.output
  size : W.heap.size ≤ W'.heap.size
  block : ∀ k, k < W.heap.size → k ∉ own → W'.heap[k]? = W.heap[k]?
  more : ∀ k ∈ own', k ∈ own ∨ W.heap.size ≤ k
  lies : ∀ k ∈ own', k < W'.heap.size
def Stays {α : Type} (n0 : Nat) (J : List α → List Nat → World → Prop) : Prop := ∀ pre own W W', J pre own W → Still n0 own W W' → J pre own W'

theorem Mv.refl {own : List Nat} {W : World} (h : ∀ k ∈ own, k < W.heap.size) : Mv own own W W := ⟨rfl, rfl, rfl, Nat.le_refl _, fun _ _ _ => rfl, fun _ h => .inl h, h⟩
theorem Mv.trans {a b c : List Nat} {W1 W2 W3 : World} (h : Mv a b W1 W2) (k : Mv b c W2 W3) : Mv a c W1 W3 :=
  ⟨k.os.trans h.os, k.tape.trans h.tape, k.output.trans h.output, Nat.le_trans h.size k.size, fun i hi hn => (k.block i (Nat.lt_of_lt_of_le hi h.size) (fun hb => (h.more i hb).elim hn (by omega))).trans (h.block i hi hn),
    fun i hi => (k.more i hi).elim (fun hb => h.more i hb) (fun hb => .inr (Nat.le_trans h.size hb)), k.lies⟩
/-- what the own ones were at first stays out of what they came to be -/
theorem Mv.out {a b : List Nat} {W W' : World} (h : Mv a b W W') {k : Nat} (hk : k < W.heap.size) (hn : k ∉ a) : k ∉ b := fun hb => (h.more k hb).elim hn (by omega)
theorem Mv.above {a b : List Nat} {W W' : World} (h : Mv a b W W') {n0 : Nat} (hn : n0 ≤ W.heap.size) (ha : ∀ k ∈ a, n0 ≤ k) : ∀ k ∈ b, n0 ≤ k := fun k hk => (h.more k hk).elim (ha k) (by omega)
/-- new blocks alone -/
theorem Mv.of_below {own : List Nat} {W W' : World} (h : Below W.heap.size W W') (hl : ∀ k ∈ own, k < W.heap.size) : Mv own own W W' :=
  ⟨h.os, h.tape, h.output, h.size, fun k hk _ => h.block k hk, fun _ h => .inl h, fun k hk => Nat.lt_of_lt_of_le (hl k hk) h.size⟩
theorem Mv.wide {own own' A B : List Nat} {W W' : World} (h : Mv own own' W W') (hs : ∀ k ∈ own, k ∈ A) (hB : ∀ k ∈ B, k ∈ own' ∨ (k ∈ A ∧ k < W.heap.size)) : Mv A B W W' :=
  ⟨h.os, h.tape, h.output, h.size, fun k hk hn => h.block k hk (fun e => hn (hs k e)), fun k hk => (hB k hk).elim (fun e => (h.more k e).imp (hs k) id) (fun e => .inl e.1),
    fun k hk => (hB k hk).elim (h.lies k) (fun e => Nat.lt_of_lt_of_le e.2 h.size)⟩
theorem Still.of_below {n0 : Nat} {own : List Nat} {W W' : World} (h : Below W.heap.size W W') : Still n0 own W W' := ⟨h.os, h.tape, h.output, h.size, fun k hk _ => h.block k hk⟩
theorem Still.trans {n0 : Nat} {own : List Nat} {W1 W2 W3 : World} (h : Still n0 own W1 W2) (k : Still n0 own W2 W3) : Still n0 own W1 W3 :=
  ⟨k.os.trans h.os, k.tape.trans h.tape, k.output.trans h.output, Nat.le_trans h.size k.size, fun i hi ho => (k.block i (Nat.lt_of_lt_of_le hi h.size) ho).trans (h.block i hi ho)⟩
theorem Still.putObj {n0 : Nat} {own : List Nat} (W : World) {l : Nat} (o : Obj) (h : n0 ≤ l) (hl : l ∉ own) : Still n0 own W (W.putObj l o) :=
  ⟨rfl, rfl, rfl, by simp, fun k _ hk => World.putObj_heap_other (fun e => by subst e; exact hk.elim (by omega) hl)⟩

/-- the record of loop l is turned, nothing else -/
structure Turn (l : Nat) (W W' : World) : Prop where
  os : W'.os = W.os
  tape : W'.tape = W.tape
  output : W'.output = W.output
  size : W'.heap.size = W.heap.size
  block : ∀ k, k ≠ l → W'.heap[k]? = W.heap[k]?
theorem Turn.putObj (W : World) (l : Nat) (o : Obj) : Turn l W (W.putObj l o) := ⟨rfl, rfl, rfl, by simp, fun k hk => World.putObj_heap_other hk⟩

/-- from W to W' nothing is written that lay below n0, but the iterator's boxes, or that is of the own blocks -/
structure StillB (n0 : Nat) (boxes own : List Nat) (W W' : World) : Prop where
  os : W'.os = W.os
  tape : W'.tape = W.tape
  output : W'.output = W.output
  size : W.heap.size ≤ W'.heap.size
  block : ∀ k, k < W.heap.size → (k < n0 ∧ k ∉ boxes) ∨ k ∈ own → W'.heap[k]? = W.heap[k]?
structure MvB (boxes own own' : List Nat) (W W' : World) : Prop where
  os : W'.os = W.os
  tape : W'.tape = W.tape
  output : W'.output = W.output
  size : W.heap.size ≤ W'.heap.size
  block : ∀ k, k < W.heap.size → k ∉ own → k ∉ boxes → W'.heap[k]? = W.heap[k]?
  more : ∀ k ∈ own', k ∈ own ∨ W.heap.size ≤ k
  lies : ∀ k ∈ own', k < W'.heap.size
def StaysB {α : Type} (n0 : Nat) (boxes : List Nat) (J : List α → List Nat → World → Prop) : Prop := ∀ pre own W W', J pre own W → StillB n0 boxes own W W' → J pre own W'
theorem Still.toB {n0 : Nat} {own : List Nat} {W W' : World} (h : Still n0 own W W') (boxes : List Nat) : StillB n0 boxes own W W' := ⟨h.os, h.tape, h.output, h.size, fun k hk ho => h.block k hk (ho.imp (fun h => h.1) id)⟩
theorem StaysB.toS {α : Type} {n0 : Nat} {boxes : List Nat} {J : List α → List Nat → World → Prop} (h : StaysB n0 boxes J) : Stays n0 J := fun pre own W W' hj hs => h pre own W W' hj (hs.toB boxes)
theorem Mv.toB {own own' : List Nat} {W W' : World} (h : Mv own own' W W') (boxes : List Nat) : MvB boxes own own' W W' := ⟨h.os, h.tape, h.output, h.size, fun k hk ho _ => h.block k hk ho, h.more, h.lies⟩
theorem MvB.trans {bs a b c : List Nat} {W1 W2 W3 : World} (h : MvB bs a b W1 W2) (k : MvB bs b c W2 W3) : MvB bs a c W1 W3 :=
  ⟨k.os.trans h.os, k.tape.trans h.tape, k.output.trans h.output, Nat.le_trans h.size k.size, fun i hi hn hb => (k.block i (Nat.lt_of_lt_of_le hi h.size) (fun hb => (h.more i hb).elim hn (by omega)) hb).trans (h.block i hi hn hb),
    fun i hi => (k.more i hi).elim (fun hb => h.more i hb) (fun hb => .inr (Nat.le_trans h.size hb)), k.lies⟩
/-- an iterator that hands out xs, one by one, to rounds that all go on -/
def FlowB {α : Type} (F : Fence) (n : Nat) (P : Program) (g : Nat) (lb : Array Value) (encs : α → Array Value) (ok : Nat → Prop) (boxes : List Nat) (xs : List α) (w : World) : Prop :=
  ∀ (l : Nat) (J : List α → List Nat → World → Prop) (own : List Nat) (W : World),
    (∀ k, k < w.heap.size → W.heap[k]? = w.heap[k]?) → w.heap.size ≤ W.heap.size → (∀ k ∈ own, ok k ∧ k < W.heap.size) → StaysB W.heap.size boxes J →
    (∀ pre x own1 W1, J pre own1 W1 → pre ++ [x] <+: xs → YieldAt F (n - 1) P l (encs x) W1 fun e W' => e = .returned (.bool true) ∧ ∃ own2, J (pre ++ [x]) own2 W' ∧ Mv own1 own2 W1 W') →
    J [] own W →
    CallsIn F n P g (#[.func (.yield l) #[] #[]] ++ lb) W fun e W' => (∃ v, e = .returned v) ∧ ∃ own', J xs own' W' ∧ MvB boxes own own' W W'

set_option maxHeartbeats 1000000 in
/-- the range over such an iterator, whose rounds all go on -/
theorem wpIn_flowB {F : Fence} {n : Nat} {P : Program} {α : Type} {g : Operand} {ps : Array Tmp} {assign body : Code} {Q : Exit → Act → World → Prop} {a : Act} {w : World}
    (hro : F.round = none) (hd : F.depth = none) {gf : Nat} {lb : Array Value} (hg : a.eval g = .func (.func gf) #[] lb) (hFg : F.fn gf) (eg : ∀ args w, (callFunc gf args).run P w = .ok (.enter gf args) w)
    {encs : α → Array Value} (hps : ∀ x, (encs x).size = ps.size) {ok : Nat → Prop} {boxes : List Nat} {xs : List α} (hseq : FlowB F (n - 1) P gf lb encs ok boxes xs w) (hok : ∀ k, w.heap.size ≤ k → ok k) (hbox : ∀ k ∈ boxes, k < w.heap.size)
    (I : List α → List Nat → World → Prop) (hIB : StaysB w.heap.size boxes I) (own : List Nat) (how : ∀ k ∈ own, ok k ∧ k < w.heap.size) (h0 : I [] own w)
    (hround : ∀ (l : Nat) (pre : List α) (x : α) (own1 : List Nat) (W : World), l < W.heap.size → I pre own1 W → (∀ k ∈ own1, k < W.heap.size) → pre ++ [x] <+: xs →
      assign.wpIn (F.inRound l) (n - 1 - 1) P (Exit.then (fun a' W' => Below W.heap.size W W' ∧ ∀ W2, Turn l W' W2 → I pre own1 W2 →
        body.wpIn (F.inRound l) (n - 1 - 1) P (fun e _ W3 => e = .normal ∧ ∃ own2, I (pre ++ [x]) own2 W3 ∧ Mv own1 own2 W2 W3) a' W2) (fun _ _ _ => False))
        { tmps := (ps.zip (encs x)).foldl (fun t (p, v) => t.setIfInBounds p v) a.tmps, defers := [] } W)
    (hdone : ∀ (D : Nat) (own' : List Nat) (W : World), I xs own' W → MvB boxes own own' w W → w.heap.size ≤ D → D < W.heap.size → D ∉ own' → W.heap[D]? = some (.deferred (some [])) → Q .normal { a with defers := { target := .collected D, args := #[] } :: a.defers } W) :
    (Code.rangeFunc g ps assign body).wpIn F n P Q a w := by
  have hI := hIB.toS
  refine wpIn_rangeFunc ?_
  intro fn hfn
  rw [hro]
  obtain ⟨rec, hrec⟩ : ∃ rec : LoopState → Loop, rec = fun st => { state := st, pending := none, fn, tmps := a.tmps, params := ps, assign, body, defers := w.heap.size } := ⟨_, rfl⟩
  obtain ⟨W1, hW1⟩ : ∃ W1, (w.alloc (.deferred (some []))).alloc (.loop (rec .ready)) = W1 := ⟨_, rfl⟩
  have hs1 : W1.heap.size = w.heap.size + 2 := by rw [← hW1]; simp
  have hB1 : Below w.heap.size w W1 := by
    rw [← hW1]; exact ((Below.refl _ w).alloc (Nat.le_refl _) _).alloc (by simp) _
  have hL1 : W1.heap[w.heap.size + 1]? = some (.loop (rec .ready)) := by
    rw [← hW1]; have := World.alloc_heap_new (w.alloc (.deferred (some []))) (.loop (rec .ready)); rwa [World.size_alloc] at this
  have hK1 : W1.heap[w.heap.size]? = some (.deferred (some [])) := by
    rw [← hW1]; exact (Below.heap_alloc _ _ _ (by simp)).trans (World.alloc_heap_new w _)
  have hI1 : I [] own W1 := hI _ _ _ _ h0 (Still.of_below hB1)
  have hm1 : Mv own own w W1 := Mv.of_below hB1 fun k hk => (how k hk).2
  refine ⟨w.heap.size + 1, [{ target := .collected w.heap.size, args := #[] }], W1, { target := .fn (.func gf) lb, args := #[.func (.yield (w.heap.size + 1)) #[] #[]] }, W1, gf,
    #[.func (.yield (w.heap.size + 1)) #[] #[]] ++ lb, W1, ?_, ?_, ?_, ?_, fun h => (by rw [hd] at h; cases h), ?_⟩
  · rw [← hW1, hrec]; exact run_enterLoop_outer _ _ _ _ _
  · simp only [resolve, hg]
    simp [go_sem]
  · intro f' hf'; simp [Target.leads] at hf'; subst hf'; exact hFg
  · simp [invoke, go_sem, eg]
  · refine (hseq (w.heap.size + 1)
      (fun pre ownJ W => ∃ own1, ownJ = w.heap.size :: (w.heap.size + 1) :: own1 ∧ I pre own1 W ∧ (∀ k ∈ own1, k < W.heap.size) ∧ w.heap.size ∉ own1 ∧ w.heap.size + 1 ∉ own1 ∧ W.heap[w.heap.size + 1]? = some (.loop (rec .ready)) ∧ W.heap[w.heap.size]? = some (.deferred (some [])))
      (w.heap.size :: (w.heap.size + 1) :: own) W1 hB1.block (by omega) ?_ ?_ ?_ ?_).mono ?_
    · intro k hk
      rcases List.mem_cons.1 hk with rfl | hk
      · exact ⟨hok _ (Nat.le_refl _), by omega⟩
      · rcases List.mem_cons.1 hk with rfl | hk
        · exact ⟨hok _ (by omega), by omega⟩
        · exact ⟨(how k hk).1, by have := (how k hk).2; omega⟩
    · rintro pre ownJ W W' ⟨own1, rfl, hi, hin, hD, hL, hl, hk⟩ hs
      exact ⟨own1, rfl, hIB _ _ _ _ hi ⟨hs.os, hs.tape, hs.output, hs.size, fun k h1 h2 => hs.block k h1 (h2.imp (fun h => ⟨by omega, h.2⟩) fun h => by simp [h])⟩, fun k h => Nat.lt_of_lt_of_le (hin k h) hs.size, hD, hL,
        (hs.block _ (Array.getElem?_eq_some_iff.1 hl).1 (.inr (by simp))).trans hl, (hs.block _ (Array.getElem?_eq_some_iff.1 hk).1 (.inr (by simp))).trans hk⟩
    · rintro pre x ownJ W0 ⟨own1, rfl, hi, hin, hD, hL, hl, hk⟩ hpre
      have hlt0 : w.heap.size + 1 < W0.heap.size := (Array.getElem?_eq_some_iff.1 hl).1
      have hy := run_yield (P := P) (args := encs x) hl (by rw [hrec]; exact hps x)
      rw [hrec] at hy
      refine ⟨fn, _, assign, body, hy, roundIn_of_wpIn hfn (wpIn_mono (hround _ pre x own1 W0 hlt0 hi hin hpre) ?_)⟩
      intro e a' W hex
      cases e with
      | normal => ?_
      | ret => exact hex.elim
      | exit _ => exact hex.elim
      | goto _ => exact hex.elim
      | panic _ => exact hex.elim
      | outgrown => exact hex.elim
      obtain ⟨hbW, hbody⟩ := hex
      have hmW : Mv own1 own1 W0 W := Mv.of_below hbW hin
      have hi := hI _ _ _ _ hi (Still.of_below hbW)
      have hl := (hbW.block _ hlt0).trans hl
      have hk := (hbW.block _ (by omega)).trans hk
      have hlt : w.heap.size + 1 < W.heap.size := (Array.getElem?_eq_some_iff.1 hl).1
      refine ⟨_, run_beginRound hl (by rw [hrec]), ?_⟩
      have hl2 : (W.putObj (w.heap.size + 1) (.loop { rec .ready with state := .busy })).heap[w.heap.size + 1]? = some (.loop { rec .ready with state := .busy }) := World.putObj_heap_same hlt
      have hk2 : (W.putObj (w.heap.size + 1) (.loop { rec .ready with state := .busy })).heap[w.heap.size]? = some (.deferred (some [])) := (World.putObj_heap_other (by omega)).trans hk
      have hi2 := hI _ _ _ _ hi (Still.putObj W (.loop { rec .ready with state := .busy }) (by omega : w.heap.size ≤ w.heap.size + 1) hL)
      refine wpIn_mono (hbody _ (Turn.putObj W _ _) hi2) ?_
      rintro e a3 W3 ⟨rfl, own2, hi3, hm⟩
      have hl3 := (hm.block _ (by rw [World.putObj_size]; exact hlt) hL).trans hl2
      have hk3 := (hm.block _ (by rw [World.putObj_size]; omega) hD).trans hk2
      have hL3 := hm.out (by rw [World.putObj_size]; exact hlt) hL
      have hD3 := hm.out (by rw [World.putObj_size]; omega) hD
      have hr := run_endRound (P := P) none hl3
      have hlt3 : w.heap.size + 1 < W3.heap.size := (Array.getElem?_eq_some_iff.1 hl3).1
      have e3 : ({ ({ rec .ready with state := .busy } : Loop) with state := if (none : Option Code).isNone then .ready else .done, pending := none } : Loop) = rec .ready := by rw [hrec]; rfl
      rw [e3] at hr
      refine ⟨_, _, hr, rfl, w.heap.size :: (w.heap.size + 1) :: own2, ⟨own2, rfl, hI _ _ _ _ hi3 (Still.putObj W3 _ (by omega) hL3), fun k h => by rw [World.putObj_size]; exact hm.lies k h, hD3, hL3, World.putObj_heap_same hlt3, (World.putObj_heap_other (by omega)).trans hk3⟩, ?_⟩
      refine Mv.trans (hmW.wide (A := w.heap.size :: (w.heap.size + 1) :: own1) (B := w.heap.size :: (w.heap.size + 1) :: own1) (fun k hk => by simp [hk]) (fun k hk => ?_)) (b := w.heap.size :: (w.heap.size + 1) :: own1) ⟨hm.os, hm.tape, hm.output, by have := hm.size; rw [World.putObj_size] at this ⊢; exact this, fun k h1 h2 => ?_, fun k hk => ?_, fun k hk => ?_⟩
      · rcases List.mem_cons.1 hk with rfl | hk
        · exact .inr ⟨by simp, by omega⟩
        · rcases List.mem_cons.1 hk with rfl | hk
          · exact .inr ⟨by simp, by omega⟩
          · exact .inl hk
      · simp only [List.mem_cons, not_or] at h2
        exact (World.putObj_heap_other h2.2.1).trans ((hm.block k (by rw [World.putObj_size]; exact h1) h2.2.2).trans (World.putObj_heap_other h2.2.1))
      · rcases List.mem_cons.1 hk with rfl | hk
        · exact .inl (by simp)
        · rcases List.mem_cons.1 hk with rfl | hk
          · exact .inl (by simp)
          · exact (hm.more k hk).imp (fun h => by simp [h]) (fun h => by rwa [World.putObj_size] at h)
      · rw [World.putObj_size]
        rcases List.mem_cons.1 hk with rfl | hk
        · omega
        · rcases List.mem_cons.1 hk with rfl | hk
          · exact hlt3
          · exact hm.lies k hk
    · exact ⟨own, rfl, hI1, fun k hk => by have := (how k hk).2; omega, fun h => by have := (how _ h).2; omega, fun h => by have := (how _ h).2; omega, hL1, hK1⟩
    · rintro e W2 ⟨⟨v, rfl⟩, ownJ, ⟨own1, rfl, hi, hin, hD, hL, hl, hk⟩, hm⟩
      have hle := run_endLoop (P := P) hl (by rw [hrec]; simp)
      have hlt := (Array.getElem?_eq_some_iff.1 hl).1
      refine ⟨none, _, by rw [hrec] at hle; exact hle, hdone w.heap.size own1 _ (hI _ _ _ _ hi (Still.putObj W2 _ (by omega) hL)) ?_ (Nat.le_refl _) (by rw [World.putObj_size]; omega) hD ((World.putObj_heap_other (by omega)).trans hk)⟩
      refine ⟨hm.os.trans hB1.os, hm.tape.trans hB1.tape, hm.output.trans hB1.output, by rw [World.putObj_size]; have := hm.size; omega, fun k h1 h2 h3 => ?_, fun k hk => ?_, fun k hk => ?_⟩
      · exact (World.putObj_heap_other (by omega)).trans ((hm.block k (by omega) (by simp only [List.mem_cons, not_or]; exact ⟨by omega, by omega, h2⟩) h3).trans (hB1.block k h1))
      · rcases hm.more k (by simp [hk]) with h | h
        · rcases List.mem_cons.1 h with rfl | h
          · exact .inr (Nat.le_refl _)
          · rcases List.mem_cons.1 h with rfl | h
            · exact .inr (by omega)
            · exact .inl h
        · exact .inr (by omega)
      · rw [World.putObj_size]
        exact hm.lies k (by simp [hk])
end Go.Proofs.Ytoligmmjmghgnaa
