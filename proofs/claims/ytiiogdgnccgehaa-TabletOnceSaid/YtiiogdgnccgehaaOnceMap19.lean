/-
  Maps of the law's own that count what came once: looked into, written. No conditions.
-/
import Derived.Test.YtiiogdgnccgehaaJI
import Derived.WideKeyPair
import Derived.DeepKeys4
import Derived.WideKeyEntry
namespace Go.Proofs.Ytiiogdgnccgehaa
open Go.RowKit Go.ChangeMaps Go.MapKept Go.Maps

/-- the map in block b has these keys, each once, each counted once -/
def MapK (W : World) (kt : TypeId) (b : Nat) (l : List Value) : Prop :=
  ∃ es clock, W.heap[b]? = some (.map es clock) ∧ es.toList.map (·.key) = l ∧ (∀ e ∈ es.toList, e.val = .int .i64 1) ∧ (∀ e ∈ es.toList, e.born < clock) ∧ ∀ e ∈ es.toList, ∃ kl, keyOf Try.prog kt e.key = some kl
/-- .. and an entry that is new, not yet counted -/
def MapE (W : World) (kt : TypeId) (b : Nat) (l : List Value) (key : Value) (clock : Nat) : Prop :=
  ∃ es : Array MapEntry, W.heap[b]? = some (.map (es.push ⟨key, .int .i64 0, clock⟩) (clock + 1)) ∧ es.toList.map (·.key) = l ∧ (∀ e ∈ es.toList, e.val = .int .i64 1) ∧ (∀ e ∈ es.toList, e.born < clock) ∧ ∀ e ∈ es.toList, ∃ kl, keyOf Try.prog kt e.key = some kl
theorem MapK.made (W : World) (kt : TypeId) : MapK (W.alloc (.map #[] 0)) kt W.heap.size [] := ⟨#[], 0, (MapKept.heap_alloc W _).1, rfl, fun e h => by simp at h, fun e h => by simp at h, fun e h => by simp at h⟩
section
variable {W W' : World} {kt et mt : TypeId} {b : Nat} {l : List Value} {key : Value} {kl : Lit} {clock : Nat}
theorem MapK.lt (h : MapK W kt b l) : b < W.heap.size := by
  obtain ⟨es, clock, hb, _⟩ := h
  exact (Array.getElem?_eq_some_iff.1 hb).1
theorem MapK.keep (h : MapK W kt b l) (hg : W'.heap[b]? = W.heap[b]?) : MapK W' kt b l := by
  obtain ⟨es, clock, hb, he⟩ := h
  exact ⟨es, clock, hg.trans hb, he⟩
theorem MapK.below (h : MapK W kt b l) (hb : Below W.heap.size W W') : MapK W' kt b l := h.keep (hb.block b h.lt)
theorem MapK.grown (h : MapK W kt b l) {row : Option Nat} (hg : W.grownBy W' row) (hne : row ≠ some b) : MapK W' kt b l := h.keep (hg.block b h.lt (fun e => hne e.symm))
theorem setBlock_grown (_hb : b < W.heap.size) (o : Obj) : W.grownBy (setBlock W b o) (some b) :=
  ⟨rfl, rfl, rfl, by simp [setBlock], fun i _ hi => by
    show (W.heap.setIfInBounds b o)[i]? = W.heap[i]?
    rw [Array.getElem?_setIfInBounds]
    rw [if_neg (fun e => hi (by rw [e]))]⟩
theorem find_absent (K : Keyed Try.prog kt) (hk : keyOf Try.prog kt key = some kl) {es : List MapEntry} (hes : ∀ e ∈ es, ∃ kl, keyOf Try.prog kt e.key = some kl) (hn : key ∉ es.map (·.key)) : (Instr.findKey kt key es).run Try.prog W = .ok none W := by
  rcases K.find W hk es hes with ⟨h1, _⟩ | ⟨j, e, h1, h2, h3⟩
  · exact h1
  · exact absurd (List.mem_map.2 ⟨e, List.mem_of_getElem? h2, h3⟩) hn
theorem find_last (K : Keyed Try.prog kt) (hk : keyOf Try.prog kt key = some kl) {es : List MapEntry} (hes : ∀ e ∈ es, ∃ kl, keyOf Try.prog kt e.key = some kl) (hn : key ∉ es.map (·.key)) (v : Value) (clock : Nat) :
    (Instr.findKey kt key (es ++ [⟨key, v, clock⟩])).run Try.prog W = .ok (some (es.length, v)) W := by
  have hes2 : ∀ e ∈ es ++ [⟨key, v, clock⟩], ∃ kl, keyOf Try.prog kt e.key = some kl := fun e he => by
    rcases List.mem_append.1 he with he | he
    · exact hes e he
    · rw [List.mem_singleton.1 he]; exact ⟨kl, hk⟩
  rcases K.find W hk _ hes2 with ⟨_, h2⟩ | ⟨j, e, h1, h2, h3⟩
  · exact absurd rfl (h2 ⟨key, v, clock⟩ (by simp))
  · rcases Nat.lt_or_ge j es.length with hj | hj
    · rw [List.getElem?_append_left hj] at h2
      exact absurd (List.mem_map.2 ⟨e, List.mem_of_getElem? h2, h3⟩) hn
    · rw [List.getElem?_append_right hj] at h2
      have hj0 : j - es.length = 0 := by
        rcases Nat.eq_zero_or_pos (j - es.length) with h | h
        · exact h
        · rw [List.getElem?_eq_none (by simp; omega)] at h2; cases h2
      rw [hj0] at h2
      simp at h2
      subst h2
      have : j = es.length := by omega
      subst this
      exact h1
theorem MapK.lookup (h : MapK W kt b l) (K : Keyed Try.prog kt) (ht : Try.prog.underlying mt = some (.map kt et)) (hz : ∀ w, (zeroValue et).run Try.prog w = .ok (.int .i64 0) w) (hk : keyOf Try.prog kt key = some kl) (hn : key ∉ l) :
    (Instr.lookup mt (.map (some b)) key false).run Try.prog W = .ok (.int .i64 0) W := by
  obtain ⟨es, clock, hb, he, _, _, hks⟩ := h
  subst he
  simp [Instr.lookup, run_underlying ht, MapKept.run_getObj_map hb, K.check W _ hk, find_absent K hk hks hn, hz, Result.andThen]
theorem MapE.lookup (h : MapE W kt b l key clock) (K : Keyed Try.prog kt) (ht : Try.prog.underlying mt = some (.map kt et)) (hk : keyOf Try.prog kt key = some kl) (hn : key ∉ l) :
    (Instr.lookup mt (.map (some b)) key false).run Try.prog W = .ok (.int .i64 0) W := by
  obtain ⟨es, hb, he, _, _, hks⟩ := h
  subst he
  have hf := find_last (W := W) K hk hks hn (.int .i64 0) clock
  simp [Instr.lookup, run_underlying ht, MapKept.run_getObj_map hb, K.check W _ hk, hf, Result.andThen]
theorem MapK.last (h : MapK W kt b (l ++ [key])) (K : Keyed Try.prog kt) (ht : Try.prog.underlying mt = some (.map kt et)) (hk : keyOf Try.prog kt key = some kl) :
    (Instr.lookup mt (.map (some b)) key false).run Try.prog W = .ok (.int .i64 1) W := by
  obtain ⟨es, clock, hb, he, hv, _, hks⟩ := h
  rcases K.find W hk _ hks with ⟨_, h2⟩ | ⟨j, e, h1, h2, h3⟩
  · have : key ∈ es.toList.map (·.key) := by rw [he]; simp
    obtain ⟨e, he1, he2⟩ := List.mem_map.1 this
    exact absurd he2 (h2 e he1)
  · have := hv e (List.mem_of_getElem? h2)
    rw [this] at h1
    simp [Instr.lookup, run_underlying ht, MapKept.run_getObj_map hb, K.check W _ hk, h1, Result.andThen]
theorem MapK.push {es : Array MapEntry} (hb : b < W.heap.size) (he : es.toList.map (·.key) = l) (hv : ∀ e ∈ es.toList, e.val = .int .i64 1) (hbo : ∀ e ∈ es.toList, e.born < clock) (hks : ∀ e ∈ es.toList, ∃ kl, keyOf Try.prog kt e.key = some kl) (hk : keyOf Try.prog kt key = some kl) :
    MapK (setBlock W b (.map (es.push ⟨key, .int .i64 1, clock⟩) (clock + 1))) kt b (l ++ [key]) := by
  refine ⟨_, _, by show (W.heap.setIfInBounds b _)[b]? = _; rw [Array.getElem?_setIfInBounds_self_of_lt hb], ?_, ?_, ?_, ?_⟩
  · simp [he]
  · intro e h
    rw [Array.toList_push] at h
    rcases List.mem_append.1 h with h | h
    · exact hv e h
    · rw [List.mem_singleton.1 h]
  · intro e h
    rw [Array.toList_push] at h
    rcases List.mem_append.1 h with h | h
    · have := hbo e h; omega
    · rw [List.mem_singleton.1 h]; exact Nat.lt_succ_self _
  · intro e h
    rw [Array.toList_push] at h
    rcases List.mem_append.1 h with h | h
    · exact hks e h
    · rw [List.mem_singleton.1 h]; exact ⟨kl, hk⟩
theorem MapK.update (h : MapK W kt b l) (K : Keyed Try.prog kt) (ht : Try.prog.underlying mt = some (.map kt et)) (hk : keyOf Try.prog kt key = some kl) (hn : key ∉ l) :
    ∃ W', (Instr.mapUpdate mt (.map (some b)) key (.int .i64 1)).run Try.prog W = .ok () W' ∧ MapK W' kt b (l ++ [key]) ∧ W.grownBy W' (some b) := by
  have hlt := h.lt
  obtain ⟨es, clock, hb, he, hv, hbo, hks⟩ := h
  refine ⟨_, ?_, MapK.push (W := W) (es := es) (clock := clock) hlt he hv hbo hks hk, setBlock_grown hlt _⟩
  subst he
  simp [Instr.mapUpdate, run_underlying ht, MapKept.run_getObj_map hb, K.check W _ hk, find_absent K hk hks hn, MapKept.run_setObj_map _ hb, Result.andThen, setBlock]
theorem MapK.entry (h : MapK W kt b l) (K : Keyed Try.prog kt) (ht : Try.prog.underlying mt = some (.map kt et)) (hz : ∀ w, (zeroValue et).run Try.prog w = .ok (.int .i64 0) w) (hk : keyOf Try.prog kt key = some kl) (hn : key ∉ l) :
    ∃ W' clock, (Instr.mapEntry mt (.map (some b)) key).run Try.prog W = .ok (.tuple #[.int .i64 0, .int .i64 (clock : Nat)]) W' ∧ MapE W' kt b l key clock ∧ W.grownBy W' (some b) := by
  have hlt := h.lt
  obtain ⟨es, clock, hb, he, hv, hbo, hks⟩ := h
  refine ⟨_, clock, ?_, ⟨es, by show (W.heap.setIfInBounds b _)[b]? = _; rw [Array.getElem?_setIfInBounds_self_of_lt hlt], he, hv, hbo, hks⟩, setBlock_grown hlt _⟩
  subst he
  simp [Instr.mapEntry, run_underlying ht, MapKept.run_getObj_map hb, K.check W _ hk, find_absent K hk hks hn, hz, MapKept.run_setObj_map _ hb, Result.andThen, setBlock, goInt]
theorem MapE.store (h : MapE W kt b l key clock) (hk : keyOf Try.prog kt key = some kl) :
    ∃ W', (Instr.entryStore mt (.map (some b)) (.int .i64 (clock : Nat)) (.int .i64 1)).run Try.prog W = .ok () W' ∧ MapK W' kt b (l ++ [key]) ∧ W.grownBy W' (some b) := by
  obtain ⟨es, hb, he, hv, hbo, hks⟩ := h
  have hlt := (Array.getElem?_eq_some_iff.1 hb).1
  refine ⟨_, ?_, MapK.push (W := W) (es := es) (clock := clock) hlt he hv hbo hks hk, setBlock_grown hlt _⟩
  have hidx : (es.push ⟨key, .int .i64 0, clock⟩).findIdx? (fun e => ((e.born : Nat) : Int) == ((clock : Nat) : Int)) = some es.size := by
    rw [Go.WideElems.findIdx_arr, Array.toList_push, List.findIdx?_append]
    have h1 : es.toList.findIdx? (fun e => ((e.born : Nat) : Int) == ((clock : Nat) : Int)) = none := by
      rw [List.findIdx?_eq_none_iff]
      intro e he
      have := hbo e he
      rw [beq_eq_false_iff_ne]
      omega
    rw [h1]
    simp
  have hmod : (es.push ⟨key, .int .i64 0, clock⟩).modify es.size (fun e => { e with val := .int .i64 1 }) = es.push ⟨key, .int .i64 1, clock⟩ := by
    apply Array.ext'
    rw [Array.toList_modify, Array.toList_push, Array.toList_push, ← Array.length_toList, Go.WideElems.modify_last]
  simp [Instr.entryStore, MapKept.run_getObj_map hb, asInt, asIntOf, hidx, hmod, MapKept.run_setObj_map _ hb, Result.andThen, setBlock]
end
section
variable {W : World} {ops : Array Oper} {rest : List Oper} {o : Oper} {a : Act} {Q : Exit → Act → World → Prop} {mt : TypeId} {b : Nat} {key v : Value}
theorem wp_lookup (hrun : (Instr.lookup mt (.map (some b)) key false).run Try.prog W = .ok v W) (hg : o.guard = none) (m x : Operand) (hop : o.op = Op.lookup mt m x false) (hm : a.eval m = .map (some b)) (hx : a.eval x = key)
    (hK : wpList Try.prog ops Q rest (a.put o.dst v) W) : wpList Try.prog ops Q (o :: rest) a W := by
  refine wpList_plain hg fun K' hK' => ?_
  unfold Oper.wp
  simp [execOp, hop, hm, hx, hrun, Result.andThen]
  exact hK' _ _ hK
theorem wp_update {W' : World} (hrun : (Instr.mapUpdate mt (.map (some b)) key v).run Try.prog W = .ok () W') (hg : o.guard = none) (m x y : Operand) (hop : o.op = Op.mapUpdate mt m x y) (hm : a.eval m = .map (some b)) (hx : a.eval x = key) (hy : a.eval y = v)
    (hK : wpList Try.prog ops Q rest (a.put o.dst undef) W') : wpList Try.prog ops Q (o :: rest) a W := by
  refine wpList_plain hg fun K' hK' => ?_
  unfold Oper.wp
  simp [execOp, hop, hm, hx, hy, hrun, Result.andThen]
  exact hK' _ _ hK
theorem wp_entry {W' : World} (hrun : (Instr.mapEntry mt (.map (some b)) key).run Try.prog W = .ok v W') (hg : o.guard = none) (m x : Operand) (hop : o.op = Op.mapEntry mt m x) (hm : a.eval m = .map (some b)) (hx : a.eval x = key)
    (hK : wpList Try.prog ops Q rest (a.put o.dst v) W') : wpList Try.prog ops Q (o :: rest) a W := by
  refine wpList_plain hg fun K' hK' => ?_
  unfold Oper.wp
  simp [execOp, hop, hm, hx, hrun, Result.andThen]
  exact hK' _ _ hK
theorem wp_store {W' : World} {st : Value} (hrun : (Instr.entryStore mt (.map (some b)) st v).run Try.prog W = .ok () W') (hg : o.guard = none) (m x y : Operand) (hop : o.op = Op.entryStore mt m x y) (hm : a.eval m = .map (some b)) (hx : a.eval x = st) (hy : a.eval y = v)
    (hK : wpList Try.prog ops Q rest (a.put o.dst undef) W') : wpList Try.prog ops Q (o :: rest) a W := by
  refine wpList_plain hg fun K' hK' => ?_
  unfold Oper.wp
  simp [execOp, hop, hm, hx, hy, hrun, Result.andThen]
  exact hK' _ _ hK
end
theorem wf_of {n : Nat} (h : n < 256 ^ 8) : (Lit.int .u64 (n : Int)).wf = true := by
  have e1 : IntKind.u64.min = 0 := by decide
  have e2 : IntKind.u64.max = 18446744073709551615 := by decide
  simp [Lit.wf, e1, e2]
  omega
theorem num_law : Keyed Try.prog 22 := int_keyed Try.underlying22
theorem num_key {n : Nat} (h : n < 256 ^ 8) : keyOf Try.prog 22 (.int .u64 (n : Int)) = some (.int .u64 (n : Int)) := keyOf_int_mk Try.underlying22 (wf_of h)
theorem pair_arr : Go.WideMaps.ArrKey Try.prog 73 22 2 := ⟨Try.underlying73, by kernel_rfl, by kernel_rfl, by kernel_rfl⟩
theorem pair_law : Keyed Try.prog 73 := Keyed.of_law (deep_law_laid (by kernel_rfl) (m := 2) (by omega) (of_decide_eq_true (by kernel_rfl)) (by kernel_rfl) (by rw [Try.underlying73]))
theorem types_size : ∃ m, Try.prog.types.size = m + 1 := ⟨Try.prog.types.size - 1, by have : (0 : Nat) < Try.prog.types.size := of_decide_eq_true (by kernel_rfl); omega⟩
theorem pair_key {n m : Nat} (h : n < 256 ^ 8) (h' : m < 256 ^ 8) : ∃ kl, keyOf Try.prog 73 (.agg #[.int .u64 (n : Int), .int .u64 (m : Int)]) = some kl := ⟨_, Go.WideMaps.keyOf_pair pair_arr Try.underlying22 types_size (wf_of h) (wf_of h')⟩
theorem int_zero (w : World) : (zeroValue 3).run Try.prog w = .ok (.int .i64 0) w := by kernel_rfl
end Go.Proofs.Ytiiogdgnccgehaa
