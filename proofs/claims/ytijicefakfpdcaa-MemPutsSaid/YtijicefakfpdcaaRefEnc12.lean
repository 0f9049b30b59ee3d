/-
  The walk of the reference's Encode: how long the text is, whatever the order of evaluation.
-/
import Derived.Test.YtijicefakfpdcaaRefNum12
import Derived.Test.YtijicefakfpdcaaEncode
namespace Go.Proofs.Ytijicefakfpdcaa
open Go.RowKit
attribute [local go_sem ↓] Go.wp_at_zero Go.wp_at_succ

section
variable {P : Program} {ops : Array Oper} {Q : Exit → Act → World → Prop}
/-- how many operations are left -/
def left (L : Array Bool) : Nat := L.toList.countP fun b => !b
theorem left_set {L : Array Bool} {i : Nat} (h : L.getD i true = false) : left (L.setIfInBounds i true) + 1 = left L := by
  unfold left
  have hi : i < L.size := by
    rcases Nat.lt_or_ge i L.size with h1 | h1
    · exact h1
    · simp [Array.getElem?_eq_none h1] at h
  have he : L.toList[i]'(by simpa using hi) = false := by
    simp [hi] at h
    simpa using h
  rw [Array.toList_setIfInBounds, List.countP_set (by simpa using hi)]
  have hp : 0 < L.toList.countP fun b => !b := List.countP_pos_iff.2 ⟨_, List.getElem_mem (by simpa using hi), by rw [he]; rfl⟩
  simp only [he, Bool.not_false, Bool.not_true, if_true, Bool.false_eq_true, if_false]
  omega
theorem ready_nil {md : Region.Mode} {L : Array Bool} (h : left L = 0) : Region.ready md ops L = [] := by
  refine List.eq_nil_iff_forall_not_mem.2 fun j hj => ?_
  have := left_set (mem_ready.1 hj).1
  omega
theorem wpAny_inv {md : Region.Mode} (Inv : Array Bool → Act → World → Prop)
    (hstep : ∀ L a w, Inv L a w → ∀ i ∈ Region.ready md ops L, wpOp P ops Q i (fun a' w' => Inv (L.setIfInBounds i true) a' w') a w)
    (hend : ∀ L a w, Inv L a w → Region.ready md ops L = [] → Q .normal a w) :
    ∀ (fuel : Nat) (L : Array Bool) (a : Act) (w : World), left L ≤ fuel → Inv L a w → wpAny P md ops Q fuel L a w
  | 0, L, a, w, hf, hi => ⟨ready_nil (by omega), hend L a w hi (ready_nil (by omega))⟩
  | fuel + 1, L, a, w, hf, hi => ⟨hend L a w hi, fun i hr => wpOp_mono (fun a' w' h' => wpAny_inv Inv hstep hend fuel _ a' w' (by have := left_set (mem_ready.1 hr).1; omega) h') (hstep L a w hi i hr)⟩
theorem region_inv {id : Nat} {a : Act} {w : World} (hm : P.follows .mixedOrders = true) (Inv : Array Bool → Act → World → Prop) (h0 : Inv (Array.replicate ops.size false) a w.drew)
    (hstep : ∀ L a w, Inv L a w → ∀ i ∈ Region.ready .any ops L, wpOp P ops (Calm (Q .normal)) i (fun a' w' => Inv (L.setIfInBounds i true) a' w') a w)
    (hend : ∀ L a w, Inv L a w → Region.ready .any ops L = [] → Q .normal a w) : (Code.region id ops true).wp P Q a w :=
  wp_mono (wp_region_any hm (wpAny_inv Inv hstep hend _ _ _ _ (by
    unfold left
    have := List.countP_le_length (p := fun b => !b) (l := (Array.replicate ops.size false).toList)
    simpa using this) h0)) fun _ _ _ => calm_le
end

abbrev VI (v : Value) : Prop := ∃ z, v = .int .u8 z
abbrev VL (n : Nat) (v : Value) (w : World) : Prop := ∃ b ns, v = .slice (some ⟨b, 0, none⟩) n n ∧ Bys w b ns ∧ ns.length = n
abbrev VS (n : Nat) (v : Value) : Prop := ∃ s : ByteArray, v = .string s ∧ s.size = n
def encV (c : Cl) (g : Nat) (v : Value) (w : World) : Nat → Prop
  | 0 => v = .pointer (some ⟨g, 0, none⟩)
  | 1 => v = .string c.row
  | 2 => v = .int .i64 c.row.size
  | 3 => VI v
  | 4 => VL 1 v w
  | 5 => VS 1 v
  | 6 => v = .pointer (some ⟨g, 0, none⟩)
  | 7 => v = .string c.row
  | 8 => VS (1 + c.row.size) v
  | 9 => v = .pointer (some ⟨g, 1, none⟩)
  | 10 => v = .string c.col
  | 11 => v = .int .i64 c.col.size
  | 12 => VI v
  | 13 => VL 1 v w
  | 14 => VS 1 v
  | 15 => VS (2 + c.row.size) v
  | 16 => v = .pointer (some ⟨g, 1, none⟩)
  | 17 => v = .string c.col
  | 18 => VS (2 + c.row.size + c.col.size) v
  | 19 => v = .pointer (some ⟨g, 2, none⟩)
  | 20 => v = .int .u64 c.ts
  | 21 => VS 8 v
  | 22 => VS (10 + c.row.size + c.col.size) v
  | 23 => v = .pointer (some ⟨g, 3, none⟩)
  | 24 => v = .int .u64 c.seq
  | 25 => VS 8 v
  | 26 => VS (18 + c.row.size + c.col.size) v
  | 27 => VI v
  | 28 => v = .pointer (some ⟨g, 5, none⟩)
  | 29 => v = .string c.val
  | 30 => v = .int .i64 c.val.size
  | 31 => VI v
  | 32 => VL 2 v w
  | 33 => VS 2 v
  | 34 => VS (20 + c.row.size + c.col.size) v
  | 35 => v = .pointer (some ⟨g, 5, none⟩)
  | 36 => v = .string c.val
  | 37 => VS (20 + c.row.size + c.col.size + c.val.size) v
  | _ => True

theorem VL.below {n : Nat} {v : Value} {w w' : World} (h : VL n v w) (hb : Below w.heap.size w w') : VL n v w' := by
  obtain ⟨b, ns, h1, h2, h3⟩ := h
  exact ⟨b, ns, h1, (hb.block b (Array.getElem?_eq_some_iff.1 h2).1).trans h2, h3⟩
theorem encV_below {c : Cl} {g : Nat} {v : Value} {w w' : World} {j : Nat} (h : encV c g v w j) (hb : Below w.heap.size w w') : encV c g v w' j := by
  revert h
  unfold encV
  split <;> (intro h; first | exact h | exact VL.below h hb)

abbrev act48 (u : Nat → Value) : Act := { tmps := #[u 0, u 1, u 2, u 3, u 4, u 5, u 6, u 7, u 8, u 9, u 10, u 11, u 12, u 13, u 14, u 15, u 16, u 17, u 18, u 19, u 20, u 21, u 22, u 23, u 24, u 25, u 26, u 27, u 28, u 29, u 30, u 31, u 32, u 33, u 34, u 35, u 36, u 37, u 38, u 39, u 40, u 41, u 42, u 43, u 44, u 45, u 46, u 47], defers := [] }
def upd (u : Nat → Value) (k : Nat) (v : Value) : Nat → Value := fun j => if j = k then v else u j
structure EncI (w0 : World) (c : Cl) (g : Nat) (dl : Int) (L : Array Bool) (u : Nat → Value) (w : World) : Prop where
  sz : L.size = 40
  b : Below w0.heap.size w0 w
  u1 : u 1 = .pointer (some ⟨g, 0, none⟩)
  u4 : u 4 = .int .u8 dl
  v : ∀ j, j < 38 → L.getD j false = true → encV c g (u (j + 10)) w j
  r2 : L.getD 38 false = true → VS (encLen c) (u 2)
  r3 : L.getD 39 false = true → u 3 = .int .i64 0
def EncInv (w0 : World) (c : Cl) (g : Nat) (dl : Int) (L : Array Bool) (a : Act) (w : World) : Prop := ∃ u, a = act48 u ∧ EncI w0 c g dl L u w
theorem getD_set {L : Array Bool} {i j : Nat} (h : (L.setIfInBounds i true).getD j false = true) : j = i ∨ L.getD j false = true := by
  by_cases e : j = i
  · exact .inl e
  · right
    rwa [getD_set_ne false (fun h => e h.symm)] at h
theorem EncI.step {w0 : World} {c : Cl} {g : Nat} {dl : Int} {L : Array Bool} {u : Nat → Value} {w w' : World} (h : EncI w0 c g dl L u w) (i : Nat) (hi : i < 38) (v : Value) (hb : Below w.heap.size w w') (hv : encV c g v w' i) :
    EncInv w0 c g dl (L.setIfInBounds i true) (act48 (upd u (i + 10) v)) w' := by
  have hne : ∀ k, k ≠ i + 10 → upd u (i + 10) v k = u k := fun k hk => if_neg hk
  refine ⟨_, rfl, by simpa using h.sz, h.b.trans (hb.mono h.b.size), by rw [hne 1 (by omega)]; exact h.u1, by rw [hne 4 (by omega)]; exact h.u4, fun j hj hl => ?_, fun hl => ?_, fun hl => ?_⟩
  · rcases getD_set hl with rfl | hl
    · rw [show upd u (j + 10) v (j + 10) = v from if_pos rfl]
      exact hv
    · by_cases e : j = i
      · subst e
        rw [show upd u (j + 10) v (j + 10) = v from if_pos rfl]
        exact hv
      · rw [hne (j + 10) (by omega)]
        exact encV_below (h.v j hj hl) hb
  · rw [hne 2 (by omega)]
    exact h.r2 ((getD_set hl).resolve_left (by omega))
  · rw [hne 3 (by omega)]
    exact h.r3 ((getD_set hl).resolve_left (by omega))
theorem EncI.last1 {w0 : World} {c : Cl} {g : Nat} {dl : Int} {L : Array Bool} {u : Nat → Value} {w : World} (h : EncI w0 c g dl L u w) (v : Value) (hv : VS (encLen c) v) :
    EncInv w0 c g dl (L.setIfInBounds 38 true) (act48 (upd u 2 v)) w := by
  have hne : ∀ k, k ≠ 2 → upd u 2 v k = u k := fun k hk => if_neg hk
  refine ⟨_, rfl, by simpa using h.sz, h.b, by rw [hne 1 (by omega)]; exact h.u1, by rw [hne 4 (by omega)]; exact h.u4, fun j hj hl => ?_, fun _ => hv, fun hl => ?_⟩
  · rw [hne (j + 10) (by omega)]
    exact h.v j hj ((getD_set hl).resolve_left (by omega))
  · rw [hne 3 (by omega)]
    exact h.r3 ((getD_set hl).resolve_left (by omega))
theorem EncI.last2 {w0 : World} {c : Cl} {g : Nat} {dl : Int} {L : Array Bool} {u : Nat → Value} {w : World} (h : EncI w0 c g dl L u w) :
    EncInv w0 c g dl (L.setIfInBounds 39 true) (act48 (upd u 3 (.int .i64 0))) w := by
  have hne : ∀ k, k ≠ 3 → upd u 3 (.int .i64 0) k = u k := fun k hk => if_neg hk
  refine ⟨_, rfl, by simpa using h.sz, h.b, by rw [hne 1 (by omega)]; exact h.u1, by rw [hne 4 (by omega)]; exact h.u4, fun j hj hl => ?_, fun hl => ?_, fun _ => rfl⟩
  · rw [hne (j + 10) (by omega)]
    exact h.v j hj ((getD_set hl).resolve_left (by omega))
  · rw [hne 2 (by omega)]
    exact h.r2 ((getD_set hl).resolve_left (by omega))
theorem EncI.step2 {w0 : World} {c : Cl} {g : Nat} {dl : Int} {L : Array Bool} {u : Nat → Value} {w w' : World} (h : EncI w0 c g dl L u w) (i : Nat) (hi : i < 38) (tm : Array Value) (v : Value) (_ : tm.getD (i + 10) undef = v) (hb : Below w.heap.size w w') (hv : encV c g v w' i)
    (ht : tm = #[upd u (i + 10) v 0, upd u (i + 10) v 1, upd u (i + 10) v 2, upd u (i + 10) v 3, upd u (i + 10) v 4, upd u (i + 10) v 5, upd u (i + 10) v 6, upd u (i + 10) v 7, upd u (i + 10) v 8, upd u (i + 10) v 9, upd u (i + 10) v 10, upd u (i + 10) v 11, upd u (i + 10) v 12, upd u (i + 10) v 13, upd u (i + 10) v 14, upd u (i + 10) v 15, upd u (i + 10) v 16, upd u (i + 10) v 17, upd u (i + 10) v 18, upd u (i + 10) v 19, upd u (i + 10) v 20, upd u (i + 10) v 21, upd u (i + 10) v 22, upd u (i + 10) v 23, upd u (i + 10) v 24, upd u (i + 10) v 25, upd u (i + 10) v 26, upd u (i + 10) v 27, upd u (i + 10) v 28, upd u (i + 10) v 29, upd u (i + 10) v 30, upd u (i + 10) v 31, upd u (i + 10) v 32, upd u (i + 10) v 33, upd u (i + 10) v 34, upd u (i + 10) v 35, upd u (i + 10) v 36, upd u (i + 10) v 37, upd u (i + 10) v 38, upd u (i + 10) v 39, upd u (i + 10) v 40, upd u (i + 10) v 41, upd u (i + 10) v 42, upd u (i + 10) v 43, upd u (i + 10) v 44, upd u (i + 10) v 45, upd u (i + 10) v 46, upd u (i + 10) v 47]) : EncInv w0 c g dl (L.setIfInBounds i true) { tmps := tm, defers := [] } w' := by
  rw [ht]
  exact h.step i hi v hb hv
theorem EncI.last1' {w0 : World} {c : Cl} {g : Nat} {dl : Int} {L : Array Bool} {u : Nat → Value} {w : World} (h : EncI w0 c g dl L u w) (tm : Array Value) (v : Value) (_ : tm.getD 2 undef = v) (hv : VS (encLen c) v)
    (ht : tm = #[upd u 2 v 0, upd u 2 v 1, upd u 2 v 2, upd u 2 v 3, upd u 2 v 4, upd u 2 v 5, upd u 2 v 6, upd u 2 v 7, upd u 2 v 8, upd u 2 v 9, upd u 2 v 10, upd u 2 v 11, upd u 2 v 12, upd u 2 v 13, upd u 2 v 14, upd u 2 v 15, upd u 2 v 16, upd u 2 v 17, upd u 2 v 18, upd u 2 v 19, upd u 2 v 20, upd u 2 v 21, upd u 2 v 22, upd u 2 v 23, upd u 2 v 24, upd u 2 v 25, upd u 2 v 26, upd u 2 v 27, upd u 2 v 28, upd u 2 v 29, upd u 2 v 30, upd u 2 v 31, upd u 2 v 32, upd u 2 v 33, upd u 2 v 34, upd u 2 v 35, upd u 2 v 36, upd u 2 v 37, upd u 2 v 38, upd u 2 v 39, upd u 2 v 40, upd u 2 v 41, upd u 2 v 42, upd u 2 v 43, upd u 2 v 44, upd u 2 v 45, upd u 2 v 46, upd u 2 v 47]) : EncInv w0 c g dl (L.setIfInBounds 38 true) { tmps := tm, defers := [] } w := by
  rw [ht]
  exact h.last1 v hv
theorem EncI.last2' {w0 : World} {c : Cl} {g : Nat} {dl : Int} {L : Array Bool} {u : Nat → Value} {w : World} (h : EncI w0 c g dl L u w) (tm : Array Value)
    (ht : tm = #[upd u 3 (.int .i64 0) 0, upd u 3 (.int .i64 0) 1, upd u 3 (.int .i64 0) 2, upd u 3 (.int .i64 0) 3, upd u 3 (.int .i64 0) 4, upd u 3 (.int .i64 0) 5, upd u 3 (.int .i64 0) 6, upd u 3 (.int .i64 0) 7, upd u 3 (.int .i64 0) 8, upd u 3 (.int .i64 0) 9, upd u 3 (.int .i64 0) 10, upd u 3 (.int .i64 0) 11, upd u 3 (.int .i64 0) 12, upd u 3 (.int .i64 0) 13, upd u 3 (.int .i64 0) 14, upd u 3 (.int .i64 0) 15, upd u 3 (.int .i64 0) 16, upd u 3 (.int .i64 0) 17, upd u 3 (.int .i64 0) 18, upd u 3 (.int .i64 0) 19, upd u 3 (.int .i64 0) 20, upd u 3 (.int .i64 0) 21, upd u 3 (.int .i64 0) 22, upd u 3 (.int .i64 0) 23, upd u 3 (.int .i64 0) 24, upd u 3 (.int .i64 0) 25, upd u 3 (.int .i64 0) 26, upd u 3 (.int .i64 0) 27, upd u 3 (.int .i64 0) 28, upd u 3 (.int .i64 0) 29, upd u 3 (.int .i64 0) 30, upd u 3 (.int .i64 0) 31, upd u 3 (.int .i64 0) 32, upd u 3 (.int .i64 0) 33, upd u 3 (.int .i64 0) 34, upd u 3 (.int .i64 0) 35, upd u 3 (.int .i64 0) 36, upd u 3 (.int .i64 0) 37, upd u 3 (.int .i64 0) 38, upd u 3 (.int .i64 0) 39, upd u 3 (.int .i64 0) 40, upd u 3 (.int .i64 0) 41, upd u 3 (.int .i64 0) 42, upd u 3 (.int .i64 0) 43, upd u 3 (.int .i64 0) 44, upd u 3 (.int .i64 0) 45, upd u 3 (.int .i64 0) 46, upd u 3 (.int .i64 0) 47]) : EncInv w0 c g dl (L.setIfInBounds 39 true) { tmps := tm, defers := [] } w := by
  rw [ht]
  exact h.last2
end Go.Proofs.Ytijicefakfpdcaa
