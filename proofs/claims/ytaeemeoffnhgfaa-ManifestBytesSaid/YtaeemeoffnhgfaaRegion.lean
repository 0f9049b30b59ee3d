/-
  Regions that draw their order: an operation is taken first where a condition on the world gives its value, and the condition is owed only till a last operation comes up, which waits for all that is taken first. In a plain activation and in a round of a loop over an iterator.
  No conditions.
-/
import Derived.Test.YtaeemeoffnhgfaaOwn
import Derived.OrdersHeld
import Derived.OrdersIn
import Derived.RangeFuncCalls
namespace Go.Proofs.Ytaeemeoffnhgfaa
open Go.RowKit

section
variable {P : Program} {ops : Array Oper} {Q : Exit → Act → World → Prop} {md : Region.Mode} {C : World → Prop} {zo : Option Nat}

/-- the last operation has not come up yet -/
def Before (zo : Option Nat) (L : Array Bool) : Prop := ∀ z, zo = some z → L.getD z true = false

/-- whatever order is picked from here on; C holds behind each operation that comes up ahead of the last one -/
def WZ (P : Program) (md : Region.Mode) (ops : Array Oper) (Q : Exit → Act → World → Prop) (C : World → Prop) (zo : Option Nat) : Nat → Array Bool → Act → World → Prop
  | 0, L, a, w => Region.ready md ops L = [] ∧ Q .normal a w
  | fuel + 1, L, a, w =>
    (Region.ready md ops L = [] → Q .normal a w) ∧
    ∀ i ∈ Region.ready md ops L, wpOp P ops Q i (fun a' w' => (Before zo (L.setIfInBounds i true) → C w') ∧ WZ P md ops Q C zo fuel (L.setIfInBounds i true) a' w') a w

theorem WZ.any : ∀ (fuel : Nat) (L : Array Bool) (a : Act) (w : World), WZ P md ops Q C zo fuel L a w → wpAny P md ops Q fuel L a w
  | 0, _, _, _, h => h
  | fuel + 1, _, _, _, h => ⟨h.1, fun i hi => wpOp_mono (fun a' w' h' => WZ.any fuel _ a' w' h'.2) (h.2 i hi)⟩

/-- the last operation waits for this one -/
def WaitsFor (md : Region.Mode) (ops : Array Oper) (z i : Nat) : Bool := match ops[z]? with
  | some oz => oz.after.any fun e => Region.binds md e && e.on == i
  | none => false

theorem before_set {L : Array Bool} {i : Nat} (hw : ∀ z, zo = some z → z ≠ i) : Before zo (L.setIfInBounds i true) ↔ Before zo L := by
  constructor
  · intro h z hz
    rw [← getD_set_ne true (Ne.symm (hw z hz))]
    exact h z hz
  · intro h z hz
    rw [getD_set_ne true (Ne.symm (hw z hz))]
    exact h z hz

theorem WZ.first {i : Nat} {oi : Oper} {v : Value} (hi : ops[i]? = some oi) (hsel : ∀ (j : Nat) (o : Oper) cs b, ops[j]? = some o → o.op ≠ .select cs b)
    (hQ : ∀ c a w, Q (.panic c) (a.put oi.dst v) w → Q (.panic c) a w) (hwait : ∀ z, zo = some z → z ≠ i ∧ WaitsFor md ops z i = true) :
    ∀ (fuel : Nat) (L : Array Bool) (a : Act) (w : World),
      (∀ j oj, ops[j]? = some oj → j ≠ i → L.getD j true = false → (∀ e ∈ oj.after, Region.binds md e = true → e.on ≠ i) → oi.apart ops oj = true) →
      i ∈ Region.ready md ops L → YieldsIf P ops C oi v a → Before zo L → C w →
      WZ P md ops Q C zo fuel (L.setIfInBounds i true) (a.put oi.dst v) w → WZ P md ops Q C zo (fuel + 1) L a w := by
  have hne : ∀ z, zo = some z → z ≠ i := fun z hz => (hwait z hz).1
  intro fuel
  induction fuel with
  | zero =>
    intro L a w _ hr hy hb hC H
    refine ⟨fun h => (by rw [h] at hr; cases hr), fun j hj => ?_⟩
    by_cases hji : j = i
    · subst hji; exact hy.wpOp hi hC ⟨fun _ => hC, H⟩
    · have := ready_mono hj hji
      rw [H.1] at this
      cases this
  | succ fuel ih =>
    intro L a w hfree hr hy hb hC H
    refine ⟨fun h => (by rw [h] at hr; cases hr), fun j hj => ?_⟩
    by_cases hji : j = i
    · subst hji; exact hy.wpOp hi hC ⟨fun _ => hC, H⟩
    · have h1 := H.2 j (ready_mono hj hji)
      obtain ⟨hjun, oj, hoj, hall⟩ := mem_ready.1 hj
      have hnot : ∀ e ∈ oj.after, Region.binds md e = true → e.on ≠ i := fun e he hb heq => by
        have h1 := hall e he hb
        have h0 := (mem_ready.1 hr).1
        rw [heq] at h1
        rcases Nat.lt_or_ge i L.size with h' | h'
        · simp [h'] at h0 h1; rw [h0] at h1; cases h1
        · simp [Array.getElem?_eq_none h'] at h1
      have hjz : ∀ z, zo = some z → z ≠ j := fun z hz hzj => by
        subst hzj
        have := (hwait z hz).2
        unfold WaitsFor at this
        rw [hoj] at this
        simp only [Array.any_eq_true', Bool.and_eq_true, beq_iff_eq] at this
        obtain ⟨e, he, h2, h3⟩ := this
        exact hnot e he h2 h3
      have h2 := wpOp_putIf hoj (hfree j oj hoj hji hjun hnot) (fun cs b => hsel i oi cs b hi) (fun cs b => hsel j oj cs b hoj) hQ hy h1
      have hfree' : ∀ k ok, ops[k]? = some ok → k ≠ i → (L.setIfInBounds j true).getD k true = false →
          (∀ e ∈ ok.after, Region.binds md e = true → e.on ≠ i) → oi.apart ops ok = true := fun k ok hk hki hun hno => by
        refine hfree k ok hk hki ?_ hno
        by_cases hjk : j = k
        · subst hjk; exact hjun
        · rw [getD_set_ne true hjk] at hun; exact hun
      have hb' : Before zo (L.setIfInBounds j true) := (before_set hjz).2 hb
      refine wpOp_mono (fun a' w' h3 => ?_) h2
      have hC' : C w' := h3.2.1 ((before_set hjz).2 ((before_set hne).2 hb))
      refine ⟨fun _ => hC', ih (L.setIfInBounds j true) a' w' hfree' (ready_mono hr (Ne.symm hji)) h3.1 hb' hC' ?_⟩
      rw [Array.setIfInBounds_comm _ _ hji]
      exact h3.2.2

theorem WZ.firstF {i : Nat} {oi : Oper} {v : Value} (hi : ops[i]? = some oi) (hsel : ∀ (j : Nat) (o : Oper) cs b, ops[j]? = some o → o.op ≠ .select cs b)
    (hQ : ∀ c a w, Q (.panic c) (a.put oi.dst v) w → Q (.panic c) a w) (hne : ∀ z, zo = some z → z ≠ i) :
    ∀ (fuel : Nat) (L : Array Bool) (a : Act) (w : World),
      (∀ j oj, ops[j]? = some oj → j ≠ i → L.getD j true = false → (∀ e ∈ oj.after, Region.binds md e = true → e.on ≠ i) → oi.apart ops oj = true) →
      i ∈ Region.ready md ops L → YieldsIf P ops (fun _ => True) oi v a → (Before zo L → C w) →
      WZ P md ops Q C zo fuel (L.setIfInBounds i true) (a.put oi.dst v) w → WZ P md ops Q C zo (fuel + 1) L a w := by
  intro fuel
  induction fuel with
  | zero =>
    intro L a w _ hr hy hC H
    refine ⟨fun h => (by rw [h] at hr; cases hr), fun j hj => ?_⟩
    by_cases hji : j = i
    · subst hji; exact hy.wpOp hi trivial ⟨fun hb => hC ((before_set hne).1 hb), H⟩
    · have := ready_mono hj hji
      rw [H.1] at this
      cases this
  | succ fuel ih =>
    intro L a w hfree hr hy hC H
    refine ⟨fun h => (by rw [h] at hr; cases hr), fun j hj => ?_⟩
    by_cases hji : j = i
    · subst hji; exact hy.wpOp hi trivial ⟨fun hb => hC ((before_set hne).1 hb), H⟩
    · have h1 := H.2 j (ready_mono hj hji)
      obtain ⟨hjun, oj, hoj, hall⟩ := mem_ready.1 hj
      have hnot : ∀ e ∈ oj.after, Region.binds md e = true → e.on ≠ i := fun e he hb heq => by
        have h1 := hall e he hb
        have h0 := (mem_ready.1 hr).1
        rw [heq] at h1
        rcases Nat.lt_or_ge i L.size with h' | h'
        · simp [h'] at h0 h1; rw [h0] at h1; cases h1
        · simp [Array.getElem?_eq_none h'] at h1
      have h2 := wpOp_putIf hoj (hfree j oj hoj hji hjun hnot) (fun cs b => hsel i oi cs b hi) (fun cs b => hsel j oj cs b hoj) hQ hy h1
      have hfree' : ∀ k ok, ops[k]? = some ok → k ≠ i → (L.setIfInBounds j true).getD k true = false →
          (∀ e ∈ ok.after, Region.binds md e = true → e.on ≠ i) → oi.apart ops ok = true := fun k ok hk hki hun hno => by
        refine hfree k ok hk hki ?_ hno
        by_cases hjk : j = k
        · subst hjk; exact hjun
        · rw [getD_set_ne true hjk] at hun; exact hun
      refine wpOp_mono (fun a' w' h3 => ?_) h2
      have hC' : Before zo (L.setIfInBounds j true) → C w' := fun hb => h3.2.1 (by
        rw [Array.setIfInBounds_comm _ _ (Ne.symm hji)]
        exact (before_set hne).2 hb)
      refine ⟨hC', ih (L.setIfInBounds j true) a' w' hfree' (ready_mono hr (Ne.symm hji)) h3.1 hC' ?_⟩
      rw [Array.setIfInBounds_comm _ _ hji]
      exact h3.2.2

/-- take number i first, which yields its value in any world -/
theorem WZ.takeF {i : Nat} (d : Option Tmp) {oi : Oper} {v : Value} {fuel : Nat} {L : Array Bool} {a a' : Act} {w : World} (hi : ops[i]? = some oi) (hd : oi.dst = d)
    (hs : Region.noSelect ops = true) (hf : Region.free md ops L i = true) (hr : (Region.ready md ops L).contains i = true)
    (hQ : ∀ c a a' w, Q (.panic c) a' w → Q (.panic c) a w) (hwait : (match zo with | some z => z != i | none => true) = true)
    (hy : YieldsIf P ops (fun _ => True) oi v a) (hC : C w) (ha : a.put d v = a')
    (h : WZ P md ops Q C zo fuel (L.setIfInBounds i true) a' w) : WZ P md ops Q C zo (fuel + 1) L a w := by
  subst ha
  subst hd
  refine WZ.firstF hi (Region.noSelect_spec hs) (fun c a w => hQ c a _ w) (fun z hz => ?_) fuel L a w (Region.free_spec hi hf) (by simpa using hr) hy (fun _ => hC) h
  subst hz
  simpa using hwait

/-- take number i first -/
theorem WZ.take {i : Nat} (d : Option Tmp) {oi : Oper} {v : Value} {fuel : Nat} {L : Array Bool} {a a' : Act} {w : World} (hi : ops[i]? = some oi) (hd : oi.dst = d)
    (hs : Region.noSelect ops = true) (hf : Region.free md ops L i = true) (hr : (Region.ready md ops L).contains i = true)
    (hQ : ∀ c a a' w, Q (.panic c) a' w → Q (.panic c) a w) (hwait : (match zo with | some z => z != i && WaitsFor md ops z i && !L.getD z true | none => true) = true)
    (hy : YieldsIf P ops C oi v a) (hC : C w) (ha : a.put d v = a')
    (h : WZ P md ops Q C zo fuel (L.setIfInBounds i true) a' w) : WZ P md ops Q C zo (fuel + 1) L a w := by
  subst ha
  subst hd
  refine WZ.first hi (Region.noSelect_spec hs) (fun c a w => hQ c a _ w) (fun z hz => ?_) fuel L a w (Region.free_spec hi hf) (by simpa using hr) hy (fun z hz => ?_) hC h
  · subst hz
    simp only [Bool.and_eq_true, bne_iff_ne] at hwait
    exact ⟨hwait.1.1, hwait.1.2⟩
  · subst hz
    simp only [Bool.and_eq_true, Bool.not_eq_true'] at hwait
    exact hwait.2

theorem wpOp_of_list {i : Nat} {o : Oper} {K : Act → World → Prop} {a : Act} {w : World} (hi : ops[i]? = some o) (h : wpList P ops (Exit.then K Q) [o] a w) : wpOp P ops Q i K a w := by
  unfold wpOp
  simp only [hi]
  unfold wpList at h
  split
  · next hw =>
    rw [if_pos hw] at h
    rcases h with h | ⟨h1, h2⟩
    · left
      unfold Oper.wp at *
      generalize (execOp a.eval o).run P w = r at *
      cases r with
      | ok n w' =>
        cases n <;> simp only [Oper.upon] at h ⊢ <;>
          first
            | exact h
            | exact Calls.mono h (fun e w'' he => by cases e <;> exact he)
            | exact Rows.mono h (fun _ _ he => he)
      | halt x w' => cases x <;> simp only [Oper.upon] at h ⊢ <;> exact h
    · exact .inr ⟨h1, h2⟩
  · next hw =>
    rw [if_neg hw] at h
    exact h

/-- the only one that may come up, ahead of the last one -/
theorem WZ.one {i : Nat} {o : Oper} {fuel : Nat} {L : Array Bool} {a : Act} {w : World} (hi : ops[i]? = some o) (hr : Region.ready md ops L = [i])
    (h : wpList P ops (Exit.then (fun a' w' => C w' ∧ WZ P md ops Q C zo fuel (L.setIfInBounds i true) a' w') Q) [o] a w) : WZ P md ops Q C zo (fuel + 1) L a w :=
  ⟨fun h0 => (by rw [hr] at h0; cases h0), fun j hj => by
    rw [hr, List.mem_singleton] at hj
    subst hj
    exact wpOp_mono (fun a' w' h' => ⟨fun _ => h'.1, h'.2⟩) (wpOp_of_list hi h)⟩
/-- the last one, and what comes behind it -/
theorem WZ.last {i : Nat} {o : Oper} {fuel : Nat} {L : Array Bool} {a : Act} {w : World} (hi : ops[i]? = some o) (hr : Region.ready md ops L = [i])
    (hz : (match zo with | some z => (L.setIfInBounds i true).getD z true | none => false) = true)
    (h : wpList P ops (Exit.then (fun a' w' => WZ P md ops Q C zo fuel (L.setIfInBounds i true) a' w') Q) [o] a w) : WZ P md ops Q C zo (fuel + 1) L a w :=
  ⟨fun h0 => (by rw [hr] at h0; cases h0), fun j hj => by
    rw [hr, List.mem_singleton] at hj
    subst hj
    refine wpOp_mono (fun a' w' h' => ⟨fun hb => ?_, h'⟩) (wpOp_of_list hi h)
    cases zo with
    | none => simp at hz
    | some z => have := hb z rfl; simp only at hz; rw [hz] at this; cases this⟩
theorem WZ.done {L : Array Bool} {a : Act} {w : World} (hr : Region.ready md ops L = []) (h : Q .normal a w) : ∀ fuel, WZ P md ops Q C zo fuel L a w
  | 0 => ⟨hr, h⟩
  | _ + 1 => ⟨fun _ => h, by rw [hr]; simp⟩

/-- behind a region that does not panic -/
def Calm (K : Act → World → Prop) : Exit → Act → World → Prop := Exit.then K (fun _ _ _ => False)
theorem calm_panic (K : Act → World → Prop) : ∀ c a a' w, Calm K (.panic c) a' w → Calm K (.panic c) a w := fun _ _ _ _ h => h.elim
theorem calm_out (K : Act → World → Prop) : ¬ LetsOut (Calm K) := fun ⟨_, _, h⟩ => h.elim
theorem calm_le {e : Exit} {a : Act} {w : World} (h : Calm (Q .normal) e a w) : Q e a w := by cases e <;> first | exact h | exact h.elim

/-- a region in a plain activation -/
theorem region_wz {id : Nat} {a : Act} {w : World} (C : World → Prop) (zo : Option Nat) (hm : P.follows .mixedOrders = true)
    (h : WZ P .any ops (Calm (Q .normal)) C zo ops.size (Array.replicate ops.size false) a w.drew) : (Code.region id ops true).wp P Q a w :=
  wp_mono (wp_region_any hm (WZ.any _ _ _ _ h)) fun _ _ _ => calm_le

def noDefer (ops : Array Oper) : Bool := ops.all fun o => match o.op with | .defer _ => false | _ => true
theorem noDefer_spec (h : noDefer ops = true) (j : Nat) (o : Oper) (ho : ops[j]? = some o) : ∀ c, o.op ≠ .defer c := by
  intro c heq
  have := Array.all_eq_true_iff_forall_mem.1 h o (Array.mem_of_getElem? ho)
  simp [heq] at this

theorem callsIn_round {r n : Nat} {f : FuncId} {args : Array Value} {w : World} {R : Ending → World → Prop} (h : Calls P f args w R) : CallsIn (Fence.wide.inRound r) n P f args w R :=
  CallsIn.inRound r (callsIn_wide.2 h)
theorem rowsIn_round {r n : Nat} {row : String} {args : Array Value} {w : World} {R : Value → World → Prop} (h : Rows P row args w R) : RowsIn (Fence.wide.inRound r) n P row args w R :=
  fun c cs _ => let ⟨v, w', hr, s⟩ := h c cs; ⟨v, w', hr, stepsIn_wide.2 s⟩

theorem wpOpIn_round {r n i : Nat} {K K' : Act → World → Prop} {a : Act} {w : World} (hd : noDefer ops = true) (hout : ¬ LetsOut Q) (hK : ∀ a w, K a w → K' a w) (h : wpOp P ops Q i K a w) : wpOpIn (Fence.wide.inRound r) n P ops Q i K' a w := by
  unfold wpOp at h
  unfold wpOpIn
  cases ho : ops[i]? with
  | none => rw [ho] at h; exact hK _ _ h
  | some o =>
    rw [ho] at h
    simp only at h ⊢
    split
    · next hw =>
      rw [if_pos hw] at h
      rcases h with h | ⟨_, h⟩
      · refine ⟨fun _ _ => trivial, ?_⟩
        rw [Oper.semAt_eq _ _ _ (noDefer_spec hd i o ho)]
        unfold Oper.wp at h
        generalize (execOp a.eval o).run P w = res at *
        cases res with
        | ok x w' =>
          cases x <;> simp only [Oper.upon, Oper.uponIn] at h ⊢
          case value u => exact hK _ _ h
          case skip => exact hK _ _ h
          case defer d => exact hK _ _ h
          case enter f args =>
            refine ⟨fun h => by simp [Fence.wide] at h, callsIn_round (h.mono fun e w'' he => ?_)⟩
            cases e with
            | returned u => exact hK _ _ he
            | panicked c => exact he
            | outgrown => exact he
          case row row args => exact ⟨fun h => by simp [Fence.wide] at h, rowsIn_round (h.mono fun _ _ he => hK _ _ he)⟩
        | halt x w' => cases x <;> simp only [Oper.upon, Oper.uponIn] at h ⊢ <;> exact h
      · exact absurd h hout
    · next hw =>
      rw [if_neg hw] at h
      exact ⟨fun _ _ => trivial, hK _ _ h⟩

theorem wpAnyIn_round {r n : Nat} (hd : noDefer ops = true) (hout : ¬ LetsOut Q) : ∀ (fuel : Nat) (L : Array Bool) (a : Act) (w : World), wpAny P md ops Q fuel L a w → wpAnyIn (Fence.wide.inRound r) n P md ops Q fuel L a w
  | 0, _, _, _, h => h
  | fuel + 1, _, _, _, h => ⟨h.1, fun i hi => wpOpIn_round hd hout (fun a w => wpAnyIn_round hd hout fuel _ a w) (h.2 i hi)⟩

/-- a region in a round -/
theorem region_wz_round {r n id : Nat} {a : Act} {w : World} (C : World → Prop) (zo : Option Nat) (hm : P.follows .mixedOrders = true) (hd : noDefer ops = true)
    (h : WZ P .any ops (Calm (Q .normal)) C zo ops.size (Array.replicate ops.size false) a w.drew) : (Code.region id ops true).wpIn (Fence.wide.inRound r) n P Q a w :=
  wpIn_mono (wpIn_region_any hm (wpAnyIn_round hd (calm_out _) _ _ _ _ (WZ.any _ _ _ _ h))) fun _ _ _ => calm_le
end

end Go.Proofs.Ytaeemeoffnhgfaa
