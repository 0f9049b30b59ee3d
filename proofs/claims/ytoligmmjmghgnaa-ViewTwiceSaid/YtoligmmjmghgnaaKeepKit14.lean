/-
  A region that draws no order, in a round of a range over a function, walked as a plain one. And: what is left alone while own blocks are written.
-/
import Derived.Test.YtoligmmjmghgnaaRegion
import Derived.Test.YtoligmmjmghgnaaFlowB
import Derived.Test.YtoligmmjmghgnaaAppCell
namespace Go.Proofs.Ytoligmmjmghgnaa
open Go.RowKit

section
variable {P : Program} {ops : Array Oper} {Q : Exit → Act → World → Prop}
theorem wpListIn_round {r n : Nat} (hout : ¬ LetsOut Q) : ∀ (l : List Oper) (_ : ∀ o ∈ l, ∀ c, o.op ≠ .defer c) (a : Act) (w : World), wpList P ops Q l a w → wpListIn (Fence.wide.inRound r) n P ops Q l a w
  | [], _, _, _, h => h
  | o :: rest, hd, a, w, h => by
    have ih := wpListIn_round (r := r) (n := n) hout rest fun o ho => hd o (List.mem_cons_of_mem _ ho)
    unfold wpList at h
    unfold wpListIn
    split
    · next hw =>
      rw [if_pos hw] at h
      rcases h with h | ⟨_, h⟩
      · refine ⟨fun _ _ => trivial, ?_⟩
        rw [Oper.semAt_eq _ _ _ (hd o List.mem_cons_self)]
        unfold Oper.wp at h
        generalize (execOp a.eval o).run P w = res at *
        cases res with
        | ok x w' =>
          cases x <;> simp only [Oper.upon, Oper.uponIn] at h ⊢
          case value u => exact ih _ _ h
          case skip => exact ih _ _ h
          case defer d => exact ih _ _ h
          case enter f args =>
            refine ⟨fun h => by simp [Fence.wide] at h, callsIn_round (h.mono fun e w'' he => ?_)⟩
            cases e with
            | returned u => exact ih _ _ he
            | panicked c => exact he
            | outgrown => exact he
          case row row args => exact ⟨fun h => by simp [Fence.wide] at h, rowsIn_round (h.mono fun _ _ he => ih _ _ he)⟩
        | halt x w' => cases x <;> simp only [Oper.upon, Oper.uponIn] at h ⊢ <;> exact h
      · exact absurd h hout
    · next hw =>
      rw [if_neg hw] at h
      exact ⟨fun _ _ => trivial, ih _ _ h⟩
def noDeferL (l : List Oper) : Bool := l.all fun o => match o.op with | .defer _ => false | _ => true
theorem region_round {r n id : Nat} {l : List Oper} {a : Act} {w : World} (hd : noDeferL l = true) (h : wpList P l.toArray (Exit.then (Q .normal) (fun _ _ _ => False)) l a w) : (Code.region id l.toArray false).wpIn (Fence.wide.inRound r) n P Q a w := by
  refine wpIn_mono (Q := Calm (Q .normal)) (wpIn_region_lit (wpListIn_round (calm_out _) l ?_ _ _ h)) fun _ _ _ => calm_le
  intro o ho c hc
  have := List.all_eq_true.1 hd o ho
  simp [hc] at this
end
/-- a block that is not written: what lies there is left -/
theorem Rd.mv {own own' : List Nat} {W W' : World} {A : Option Addr} {l : List Value} (h : Rd W W.heap.size A l) (hm : Mv own own' W W') (hne : ∀ k, blk A = some k → k ∉ own) : Rd W' W.heap.size A l := fun hn => by
  obtain ⟨b, o, e, hb, hc⟩ := h hn
  have hk := hne b (by rw [e]; rfl)
  exact ⟨b, o, e, hb, fun j hj => (World.cell?_of_block (a := ⟨b, o + j, none⟩) (hm.block b hb hk)).trans (hc j hj)⟩
theorem Box.mv {own own' : List Nat} {W W' : World} {g : Nat} {e : TypeId} {v : Value} (h : Box W g e v) (hm : Mv own own' W W') (hn : g ∉ own) : Box W' g e v := (hm.block g h.lt hn).trans h
end Go.Proofs.Ytoligmmjmghgnaa
