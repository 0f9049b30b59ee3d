/-
  A region that draws its order, as a table: what each operation gives, whatever was done ahead of it. No conditions.
-/
import Derived.Test.YtiiogdgnccgehaaRefNum19
namespace Go.Proofs.Ytiiogdgnccgehaa
open Go.RowKit

section
variable {P : Program} {ops : Array Oper} {Q : Exit → Act → World → Prop}
/-- how many operations are left -/
def left (L : Array Bool) : Nat := L.toList.countP fun b => !b
theorem left_set {L : Array Bool} {i : Nat} (h : L.getD i true = false) : left (L.setIfInBounds i true) + 1 = left L := by
  unfold left
  have hi : i < L.size := by
    rcases Nat.lt_or_ge i L.size with h1 | h1
    · exact h1
    · simp [Array.getElem?_eq_none h1] at h
  have he : L.toList[i]'(by simpa using hi) = false := by
    simp [hi] at h
    simpa using h
  rw [Array.toList_setIfInBounds, List.countP_set (by simpa using hi)]
  have hp : 0 < L.toList.countP fun b => !b := List.countP_pos_iff.2 ⟨_, List.getElem_mem (by simpa using hi), by rw [he]; rfl⟩
  simp only [he, Bool.not_false, Bool.not_true, if_true, Bool.false_eq_true, if_false]
  omega
theorem ready_nil {md : Region.Mode} {L : Array Bool} (h : left L = 0) : Region.ready md ops L = [] := by
  refine List.eq_nil_iff_forall_not_mem.2 fun j hj => ?_
  have := left_set (mem_ready.1 hj).1
  omega
theorem wpAny_inv {md : Region.Mode} (Inv : Array Bool → Act → World → Prop)
    (hstep : ∀ L a w, Inv L a w → ∀ i ∈ Region.ready md ops L, wpOp P ops Q i (fun a' w' => Inv (L.setIfInBounds i true) a' w') a w)
    (hend : ∀ L a w, Inv L a w → Region.ready md ops L = [] → Q .normal a w) :
    ∀ (fuel : Nat) (L : Array Bool) (a : Act) (w : World), left L ≤ fuel → Inv L a w → wpAny P md ops Q fuel L a w
  | 0, L, a, w, hf, hi => ⟨ready_nil (by omega), hend L a w hi (ready_nil (by omega))⟩
  | fuel + 1, L, a, w, hf, hi => ⟨hend L a w hi, fun i hr => wpOp_mono (fun a' w' h' => wpAny_inv Inv hstep hend fuel _ a' w' (by have := left_set (mem_ready.1 hr).1; omega) h') (hstep L a w hi i hr)⟩
theorem region_inv {id : Nat} {a : Act} {w : World} (hm : P.follows .mixedOrders = true) (Inv : Array Bool → Act → World → Prop) (h0 : Inv (Array.replicate ops.size false) a w.drew)
    (hstep : ∀ L a w, Inv L a w → ∀ i ∈ Region.ready .any ops L, wpOp P ops (Calm (Q .normal)) i (fun a' w' => Inv (L.setIfInBounds i true) a' w') a w)
    (hend : ∀ L a w, Inv L a w → Region.ready .any ops L = [] → Q .normal a w) : (Code.region id ops true).wp P Q a w :=
  wp_mono (wp_region_any hm (wpAny_inv Inv hstep hend _ _ _ _ (by
    unfold left
    have := List.countP_le_length (p := fun b => !b) (l := (Array.replicate ops.size false).toList)
    simpa using this) h0)) fun _ _ _ => calm_le
end
def depsB (ops : Array Oper) : Bool := (List.range ops.size).all fun j => match ops[j]? with | some o => o.after.all fun e => decide (e.on < j) | none => true
theorem ready_all {ops : Array Oper} {md : Region.Mode} {L : Array Bool} (hr : Region.ready md ops L = []) (hs : L.size = ops.size) (hd : depsB ops = true) : ∀ j, j < ops.size → L.getD j false = true := by
  intro j
  induction j using Nat.strongRecOn with
  | ind j ih =>
    intro hj
    cases h : L.getD j false with
    | true => rfl
    | false =>
      have hm : j ∈ Region.ready md ops L := by
        refine mem_ready.2 ⟨?_, ops[j], Array.getElem?_eq_getElem hj, fun e he _ => ?_⟩
        · have hj' : j < L.size := by omega
          simp [hj'] at h ⊢
          exact h
        · have h1 := (List.all_eq_true.1 hd) j (List.mem_range.2 hj)
          rw [Array.getElem?_eq_getElem hj] at h1
          have h2 := Array.all_eq_true_iff_forall_mem.1 h1 e he
          have h3 := of_decide_eq_true h2
          exact ih e.on h3 (by omega)
      rw [hr] at hm
      cases hm
theorem no_done {n j : Nat} (h : (Array.replicate n false).getD j false = true) : False := by
  rcases Nat.lt_or_ge j n with h1 | h1
  · simp [h1] at h
  · simp [h1] at h
theorem getD_set {L : Array Bool} {i j : Nat} (h : (L.setIfInBounds i true).getD j false = true) : j = i ∨ L.getD j false = true := by
  by_cases e : j = i
  · exact .inl e
  · right
    rwa [getD_set_ne false (fun h => e h.symm)] at h

/-- what an operation gives: a value, by itself or by a call -/
def Stp (P : Program) (o : Oper) (a : Act) (w : World) (V : Value → World → Prop) : Prop :=
  (∃ v w1, (execOp a.eval o).run P w = .ok (.value v) w1 ∧ Below w.heap.size w w1 ∧ V v w1) ∨
  (∃ f args, (execOp a.eval o).run P w = .ok (.enter f args) w ∧ Calls P f args w fun e w1 => ∃ v, e = .returned v ∧ Below w.heap.size w w1 ∧ V v w1)
theorem Stp.val {P : Program} {o : Oper} {a : Act} {w : World} {V : Value → World → Prop} {ρ : Operand → Value} (hρ : a.eval = ρ) (v : Value) (w1 : World) (h : (execOp ρ o).run P w = .ok (.value v) w1) (hb : Below w.heap.size w w1) (hv : V v w1) : Stp P o a w V :=
  .inl ⟨v, w1, by rw [hρ]; exact h, hb, hv⟩
theorem Stp.pure {P : Program} {o : Oper} {a : Act} {w : World} {V : Value → World → Prop} {ρ : Operand → Value} (hρ : a.eval = ρ) (v : Value) (h : (execOp ρ o).run P w = .ok (.value v) w) (hv : V v w) : Stp P o a w V :=
  .inl ⟨v, w, by rw [hρ]; exact h, Below.refl _ _, hv⟩
theorem Stp.call {P : Program} {o : Oper} {a : Act} {w : World} {V : Value → World → Prop} (f : FuncId) (args : Array Value) (v : Value) (h : (execOp a.eval o).run P w = .ok (.enter f args) w) (hc : Calls P f args w fun _e w1 => _e = .returned v ∧ Below w.heap.size w w1) (hv : ∀ w1, V v w1) : Stp P o a w V :=
  .inr ⟨f, args, h, hc.mono fun _e w1 h => ⟨v, h.1, h.2, hv w1⟩⟩
theorem Stp.wp {P : Program} {o : Oper} {a : Act} {w : World} {V : Value → World → Prop} (h : Stp P o a w V) (K : Act → World → Prop) (Q : Exit → Act → World → Prop) (hK : ∀ v w1, Below w.heap.size w w1 → V v w1 → K (a.put o.dst v) w1) : o.wp P a w K Q := by
  unfold Oper.wp
  rcases h with ⟨v, w1, h, hb, hv⟩ | ⟨f, args, h, hc⟩
  · rw [h, Oper.upon_value]
    exact hK v w1 hb hv
  · rw [h, Oper.upon_enter]
    refine hc.mono ?_
    rintro e w1 ⟨v, rfl, hb, hv⟩
    exact hK v w1 hb hv

theorem getD_setV {l : Array Value} {i j : Nat} (v : Value) (h : i ≠ j) : (l.setIfInBounds i v).getD j undef = l.getD j undef := by
  rw [Array.getD_eq_getD_getElem?, Array.getD_eq_getD_getElem?, Array.getElem?_setIfInBounds_ne h]
/-- where operation j's value lies -/
def dO (ds : List Nat) (j : Nat) : Nat := ds.getD j 0
def tabOk (ops : Array Oper) (ds : List Nat) (sz : Nat) : Bool :=
  decide (ops.size = ds.length) && ((List.range ops.size).all fun i => (match ops[i]? with | some o => decide (o.dst = some (dO ds i)) && o.guard.isNone | none => true) && decide (dO ds i < sz) && ((List.range ops.size).all fun j => decide (i = j) || decide (dO ds i ≠ dO ds j))) && depsB ops
structure TI (ops : Array Oper) (ds : List Nat) (a0 : Act) (w0 : World) (V : Nat → Value → World → Prop) (L : Array Bool) (a : Act) (w : World) : Prop where
  sz : L.size = ops.size
  b : Below w0.heap.size w0 w
  ts : a.tmps.size = a0.tmps.size
  df : a.defers = a0.defers
  v : ∀ j, j < ops.size → L.getD j false = true → V j (a.tmps.getD (dO ds j) undef) w
  k : ∀ t, (∀ j, j < ops.size → L.getD j false = true → dO ds j ≠ t) → a.tmps.getD t undef = a0.tmps.getD t undef
  f : ∀ j o, ops[j]? = some o → L.getD j false = true → ∀ e ∈ o.after, Region.binds .any e = true → L.getD e.on false = true
/-- whatever writes slot t waits for operation i -/
def waitsB (ops : Array Oper) (ds : List Nat) (i t : Nat) : Bool := (List.range ops.size).all fun j => decide (dO ds j ≠ t) || (match ops[j]? with | some o => o.after.any fun e => decide (e.on = i) && Region.binds .any e | none => false)
def actTab (ds : List Nat) (a0 : Act) (n : Nat) (u : Nat → Value) : Act := { tmps := ((List.range n).map fun k => if ds.contains k then u k else a0.tmps.getD k undef).toArray, defers := a0.defers }
theorem contains_dO {ds : List Nat} {j : Nat} (h : j < ds.length) : ds.contains (dO ds j) = true := by
  unfold dO
  rw [List.getD_eq_getElem?_getD, List.getElem?_eq_getElem h]
  simp
theorem TI.act {ops : Array Oper} {ds : List Nat} {a0 a : Act} {w0 w : World} {V : Nat → Value → World → Prop} {L : Array Bool} (h : TI ops ds a0 w0 V L a w) (hlen : ops.size = ds.length) (n : Nat) (hn : a0.tmps.size = n) : a = actTab ds a0 n fun k => a.tmps.getD k undef := by
  have h1 := h.ts
  have h2 := h.df
  have h3 : ∀ t, ds.contains t = false → a.tmps.getD t undef = a0.tmps.getD t undef := fun t ht => h.k t fun j hj _ => by
    rintro rfl
    rw [contains_dO (by omega)] at ht
    cases ht
  obtain ⟨t, d⟩ := a
  simp only at h1 h2 h3
  unfold actTab
  subst hn
  rw [h2]
  congr 1
  apply Array.ext
  · simp [h1]
  · intro i hi hi'
    simp only [List.getElem_toArray, List.getElem_map, List.getElem_range]
    have e : t[i] = t.getD i undef := by simp [hi]
    cases hc : ds.contains i with
    | true => simp [hi]
    | false =>
      rw [e, h3 i hc]
      simp

theorem region_tab {P : Program} {id : Nat} {ops : Array Oper} {Q : Exit → Act → World → Prop} {a : Act} {w : World} (hm : P.follows .mixedOrders = true) (ds : List Nat) (sz : Nat) (hsz : a.tmps.size = sz) (hok : tabOk ops ds sz = true) (V : Nat → Value → World → Prop)
    (hV : ∀ j v w1 w2, V j v w1 → Below w1.heap.size w1 w2 → V j v w2)
    (hstep : ∀ i o, ops[i]? = some o → ∀ a' w', Below w.heap.size w w' → (∀ t, waitsB ops ds i t = true → a'.eval (.tmp t) = a.eval (.tmp t)) → (∀ j, (o.after.any fun e => decide (e.on = j) && Region.binds .any e) = true → V j (a'.eval (.tmp (dO ds j))) w') → Stp P o a' w' (V i))
    (hend : ∀ u w', Below w.heap.size w w' → (∀ j, j < ops.size → V j (u (dO ds j)) w') → Q .normal (actTab ds a sz u) w') : (Code.region id ops true).wp P Q a w := by
  unfold tabOk at hok
  simp only [Bool.and_eq_true, List.all_eq_true, List.mem_range, decide_eq_true_eq, Bool.or_eq_true] at hok
  obtain ⟨⟨hlen, hall⟩, hdep⟩ := hok
  refine region_inv hm (TI ops ds a w V) ?_ ?_ ?_
  · exact ⟨by simp, (Below.refl _ _).drew, rfl, rfl, fun j _ h => (no_done h).elim, fun _ _ => rfl, fun j _ _ h => (no_done h).elim⟩
  · intro L a1 w1 hI i hi
    obtain ⟨hl, o, ho, hr⟩ := mem_ready.1 hi
    have hlt : i < ops.size := (Array.getElem?_eq_some_iff.1 ho).1
    obtain ⟨⟨hd, hds⟩, hinj⟩ := hall i hlt
    rw [ho] at hd
    simp only [Bool.and_eq_true, decide_eq_true_eq] at hd
    have hS := hstep i o ho a1 w1 hI.b (fun t ht => hI.k t fun j hj hd' => by
      rintro rfl
      have h1 := (List.all_eq_true.1 ht) j (List.mem_range.2 hj)
      simp only [Bool.or_eq_true, decide_eq_true_eq, ne_eq, not_true_eq_false, false_or] at h1
      rw [Array.getElem?_eq_getElem hj] at h1
      obtain ⟨e, he, h2⟩ := Array.any_eq_true'.1 h1
      simp only [Bool.and_eq_true, decide_eq_true_eq] at h2
      have h3 := hI.f j _ (Array.getElem?_eq_getElem hj) hd' e he h2.2
      rw [h2.1] at h3
      have h4 : i < L.size := by rw [hI.sz]; exact hlt
      simp [h4] at h3 hl
      rw [h3] at hl
      cases hl) (fun j hj => by
      obtain ⟨e, he, h1⟩ := Array.any_eq_true'.1 hj
      simp only [Bool.and_eq_true, decide_eq_true_eq] at h1
      obtain ⟨rfl, h2⟩ := h1
      have h3 : e.on < ops.size := by
        unfold depsB at hdep
        have h4 := (List.all_eq_true.1 hdep) i (List.mem_range.2 hlt)
        rw [ho] at h4
        have h5 := of_decide_eq_true (Array.all_eq_true_iff_forall_mem.1 h4 e he)
        omega
      exact hI.v e.on h3 (hr e he h2))
    unfold wpOp
    simp only [ho]
    have hg : o.guard = none := by
      cases h : o.guard with
      | none => rfl
      | some g => rw [h] at hd; cases hd.2
    rw [if_pos (by simp [Region.wanted, hg])]
    left
    refine hS.wp _ _ fun v w2 hb hv => ?_
    rw [hd.1]
    refine ⟨by simpa using hI.sz, hI.b.trans (hb.mono hI.b.size), by simp [Act.put, hI.ts], hI.df, fun j hj hl' => ?_, fun t ht => ?_, fun j o' ho' hd' e he hb' => ?_⟩
    · by_cases e : j = i
      · subst e
        have hs : dO ds j < a1.tmps.size := by rw [hI.ts, hsz]; exact hds
        simp only [Act.put]
        rw [show (a1.tmps.setIfInBounds (dO ds j) v).getD (dO ds j) undef = v by simp [hs]]
        exact hv
      · have hne : dO ds i ≠ dO ds j := by
          have := hinj j hj
          rcases this with h | h
          · exact absurd h.symm e
          · exact h
        simp only [Act.put]
        rw [getD_setV _ hne]
        exact hV _ _ _ _ (hI.v j hj ((getD_set hl').resolve_left e)) hb
    · have hLi : (L.setIfInBounds i true).getD i false = true := by
        have h4 : i < L.size := by rw [hI.sz]; exact hlt
        simp [h4]
      have hne : dO ds i ≠ t := ht i hlt hLi
      simp only [Act.put]
      rw [getD_setV _ hne]
      refine hI.k t fun j hj hjd => ht j hj ?_
      by_cases e : j = i
      · subst e; exact hLi
      · rw [getD_set_ne false (fun h => e h.symm)]; exact hjd
    · have h0 : L.getD e.on false = true := by
        rcases getD_set hd' with rfl | hd'
        · rw [ho] at ho'
          injection ho' with ho'
          subst ho'
          exact hr e he hb'
        · exact hI.f j o' ho' hd' e he hb'
      by_cases e' : e.on = i
      · rw [e']
        have h4 : i < L.size := by rw [hI.sz]; exact hlt
        simp [h4]
      · rw [getD_set_ne false (fun h => e' h.symm)]; exact h0
  · intro L a1 w1 hI hr
    rw [hI.act hlen sz hsz]
    exact hend _ w1 hI.b fun j hj => hI.v j hj (ready_all hr hI.sz hdep j hj)
end Go.Proofs.Ytiiogdgnccgehaa
