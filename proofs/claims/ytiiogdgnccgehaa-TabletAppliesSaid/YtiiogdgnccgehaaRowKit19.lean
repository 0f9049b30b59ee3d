/-
  Arguments, opened: texts, numbers, cells, commands; words for the rows. No conditions.
-/
import Derived.Test.YtiiogdgnccgehaaJJ
import Derived.Test.YtiiogdgnccgehaaRows
import Derived.ProofKit
import Derived.Carry
import Derived.Deep.Slices
import Derived.SizedLaws
namespace Go.Proofs.Ytiiogdgnccgehaa
open Go.ChangeShapes Go.WideShapes Go.ChangeAt Go.RowKit Go.Deep

theorem Try.own : ownKnob Try.prog.godebug = none := by kernel_rfl
theorem Try.laidOut : laidOutB Try.prog = true := by kernel_rfl
theorem wf_i64 {n : Int} (h : (Lit.int .i64 n).wf = true) : -9223372036854775808 ≤ n ∧ n ≤ 9223372036854775807 := by
  simp only [Lit.wf, Bool.and_eq_true, decide_eq_true_eq] at h
  exact h
theorem wf_u8 {n : Int} (h : (Lit.int .u8 n).wf = true) : 0 ≤ n ∧ n ≤ 255 := by
  simp only [Lit.wf, Bool.and_eq_true, decide_eq_true_eq] at h
  exact h
theorem wf_u32 {n : Int} (h : (Lit.int .u32 n).wf = true) : 0 ≤ n ∧ n ≤ 4294967295 := by
  simp only [Lit.wf, Bool.and_eq_true, decide_eq_true_eq] at h
  exact h
theorem wf_u64 {n : Int} (h : (Lit.int .u64 n).wf = true) : 0 ≤ n ∧ n ≤ 18446744073709551615 := by
  simp only [Lit.wf, Bool.and_eq_true, decide_eq_true_eq] at h
  exact h
theorem fit_of {n : Int} (h : (Lit.int .u64 n).wf = true) : ∃ k : Nat, n = k ∧ k < 256 ^ 8 := by
  have := wf_u64 h
  exact ⟨n.toNat, by omega, by omega⟩
theorem fit32_of {n : Int} (h : (Lit.int .u32 n).wf = true) : ∃ k : Nat, n = k ∧ k < 256 ^ 4 := by
  have := wf_u32 h
  exact ⟨n.toNat, by omega, by omega⟩
theorem cells_text : Try.prog.cellsOf 9 = 1 := by kernel_rfl
theorem cells_num : Try.prog.cellsOf 22 = 1 := by kernel_rfl
theorem cells_u32 : Try.prog.cellsOf 24 = 1 := by kernel_rfl
theorem cells_int : Try.prog.cellsOf 3 = 1 := by kernel_rfl
theorem cells_bool : Try.prog.cellsOf 4 = 1 := by kernel_rfl
theorem cells_cell : Try.prog.cellsOf 75 = 6 := by kernel_rfl
theorem cells_cmd : Try.prog.cellsOf 27 = 9 := by kernel_rfl
theorem cells_cells : Try.prog.cellsOf 23 = 1 := by kernel_rfl
theorem cells_u32s : Try.prog.cellsOf 25 = 1 := by kernel_rfl
/-- a command that came in -/
structure CA where
  c : Cmd
  A : Option Addr
  k : Nat
  D : Option Addr
  m : Nat
def CA.vs (x : CA) : List Value := x.c.vs x.A x.k x.D x.m
def nilCl : Cl := ⟨⟨#[]⟩, ⟨#[]⟩, 0, 0, false, ⟨#[]⟩⟩
def CA.ok (w : World) (x : CA) : Prop := CmdIn w w.heap.size x.c x.A x.k x.D x.m ∧ fitsC x.c ∧ x.c.row.size ≤ maxLen ∧ (∀ y ∈ x.c.cells, y.row.size ≤ maxLen ∧ y.col.size ≤ maxLen ∧ y.val.size ≤ maxLen) ∧ -9223372036854775808 ≤ x.c.kind ∧ x.c.kind ≤ 9223372036854775807
def Cl.okA (c : Cl) : Prop := fitsCl c ∧ c.row.size ≤ maxLen ∧ c.col.size ≤ maxLen ∧ c.val.size ≤ maxLen
set_option maxRecDepth 20000
section
variable {H : Type} {enc : TypeId × Value → H} {w : World} {base : Nat} {spare : Nat → Bool} {held : Bool}
theorem open_cell {fuel : Nat} {cs : List Value} {x : DataW H × List MemPlace} (h : DataW.trod enc Try.prog w base spare held fuel 75 cs = some x) : ∃ c : Cl, cs = c.vals ∧ c.okA := by
  obtain ⟨xs, n, _, _, hl, hlen, hf⟩ := DataW.trod_struct Try.underlying75 h
  rw [cells_cell] at hl
  match cs, hl with
  | [v0, v1, v2, v3, v4, v5], _ =>
    match xs, hlen with
    | [y0, y1, y2, y3, y4, y5], _ =>
      have f0 := hf 0 _ rfl
      have f1 := hf 1 _ rfl
      have f2 := hf 2 _ rfl
      have f3 := hf 3 _ rfl
      have f4 := hf 4 _ rfl
      have f5 := hf 5 _ rfl
      simp only [List.getElem?_cons_zero, List.getElem?_cons_succ] at f0 f1 f2 f3 f4 f5
      obtain ⟨s0, e0, _, z0⟩ := DataW.trod_string Try.underlying9 f0
      obtain ⟨s1, e1, _, z1⟩ := DataW.trod_string Try.underlying9 f1
      obtain ⟨n2, e2, _, w2⟩ := DataW.trod_int Try.underlying22 f2
      obtain ⟨n3, e3, _, w3⟩ := DataW.trod_int Try.underlying22 f3
      obtain ⟨b4, e4, _⟩ := DataW.trod_bool Try.underlying4 f4
      obtain ⟨s5, e5, _, z5⟩ := DataW.trod_string Try.underlying9 f5
      obtain ⟨k2, rfl, hk2⟩ := fit_of w2
      obtain ⟨k3, rfl, hk3⟩ := fit_of w3
      injection e0 with e0
      injection e1 with e1
      injection e2 with e2
      injection e3 with e3
      injection e4 with e4
      injection e5 with e5
      subst e0 e1 e2 e3 e4 e5
      exact ⟨⟨s0, s1, k2, k3, b4, s5⟩, rfl, ⟨hk2, hk3⟩, z0, z1, z5⟩
theorem block_lt {p : Addr} {v : Value} (h : w.cell? p = some v) : p.block < w.heap.size := by
  rcases Nat.lt_or_ge p.block w.heap.size with h1 | h1
  · exact h1
  · unfold World.cell? at h
    rw [Array.getElem?_eq_none h1] at h
    cases h
/-- things of k cells lie at an address, one behind the other -/
theorem Rd.of_encs {α : Type} {enc' : α → List Value} {k : Nat} (hk : ∀ x, (enc' x).length = k) (hk0 : 0 < k) {a : Addr} {l : List α} (h : ∀ i (hi : i < l.length) j (hj : j < k), w.cell? (a.add (i * k + j)) = some ((enc' l[i])[j]'(by rw [hk]; exact hj))) : Rd w w.heap.size (some a) (l.flatMap enc') := fun hn => by
  have hl : 0 < l.length := by
    cases l with
    | nil => exact absurd rfl hn
    | cons c l => simp
  have h0 := h 0 hl 0 hk0
  have e0 : a.add (0 * k + 0) = a := by simp [Addr.add]
  rw [e0] at h0
  have hsp := World.cell?_spot h0
  obtain ⟨b, o, s⟩ := a
  simp only at hsp
  subst hsp
  refine ⟨b, o, rfl, block_lt h0, fun j hj => ?_⟩
  have hlen := encs_length hk l
  have hjk : j / k < l.length := Nat.div_lt_of_lt_mul (by rw [Nat.mul_comm]; omega)
  have hjm : j % k < k := Nat.mod_lt _ hk0
  have h1 := h (j / k) hjk (j % k) hjm
  have e1 : j / k * k + j % k = j := Nat.div_add_mod' j k
  rw [← add_plain]
  rw [e1] at h1
  rw [h1]
  have e2 := encs_get hk l (j / k) (j % k) hjk _ (List.getElem?_eq_getElem (by rw [hk]; exact hjm))
  rw [e1, List.getElem?_eq_getElem hj] at e2
  exact e2.symm

/-- a slice, opened: of things of k cells -/
theorem open_things {α : Type} {enc' : α → List Value} {k : Nat} {p : α → Prop} (hk : ∀ x, (enc' x).length = k) (hk0 : 0 < k) {t e : TypeId} (ht : Try.prog.underlying t = some (.slice e)) (hc : Try.prog.cellsOf e = k) (x0 : α)
    (ho : ∀ {fuel : Nat} {cs : List Value} {x : DataW H × List MemPlace}, DataW.trod enc Try.prog w base spare held fuel e cs = some x → ∃ c : α, cs = enc' c ∧ p c)
    {fuel : Nat} {cs : List Value} {x : DataW H × List MemPlace} (h : DataW.trod enc Try.prog w base spare held fuel t cs = some x) :
    ∃ (A : Option Addr) (c : Nat) (l : List α), cs = [.slice A l.length c] ∧ l.length ≤ c ∧ c ≤ maxLen ∧ Rd w w.heap.size A (l.flatMap enc') ∧ (∀ y ∈ l, p y) ∧ ((∃ es sp, x.1 = .slice es sp ∧ es.length = l.length) ∨ l = []) := by
  rcases open_slice ht h with ⟨rfl, _⟩ | ⟨a, len, cap, m, n, D, Pl, rfl, _, hl, hm, hmm, hx, hi⟩
  · exact ⟨none, 0, [], rfl, Nat.le_refl _, Nat.zero_le _, Rd.nil, fun y hy => (by cases hy), .inr rfl⟩
  · have hlm : len ≤ m := by rw [hmm]; split <;> omega
    have hc : ∀ i : Nat, ∃ c : α, i < len → p c ∧ ∀ j (hj : j < k), w.cell? (a.add (i * k + j)) = some ((enc' c)[j]'(by rw [hk]; exact hj)) := fun i => by
      by_cases hil : i < len
      · obtain ⟨cs', hcs, ht'⟩ := hi i (by omega)
        obtain ⟨c, rfl, hp⟩ := ho ht'
        rw [hc] at hcs
        obtain ⟨_, _, hat⟩ := World.cells?_some hcs
        refine ⟨c, fun _ => ⟨hp, fun j hj => ?_⟩⟩
        have h1 := hat j hj
        rw [add_add] at h1
        rw [h1, List.getElem?_eq_getElem (by rw [hk]; exact hj)]
      · exact ⟨x0, fun h => absurd h hil⟩
    obtain ⟨f, hf⟩ := Classical.axiomOfChoice hc
    refine ⟨some a, cap, (List.range len).map f, by simp, by simpa using hl, hm, Rd.of_encs hk hk0 fun i hi j hj => ?_, fun y hy => ?_, .inl ⟨(List.range len).map D, _, by rw [hx], by simp⟩⟩
    · have hi' : i < len := by simpa using hi
      rw [(hf i hi').2 j hj]
      congr 2
      simp
    · obtain ⟨i, hi, rfl⟩ := List.mem_map.1 hy
      exact (hf i (List.mem_range.1 hi)).1

theorem Cl.vals_len6 (c : Cl) : c.vals.length = 6 := rfl
theorem open_cells {fuel : Nat} {cs : List Value} {x : DataW H × List MemPlace} (h : DataW.trod enc Try.prog w base spare held fuel 23 cs = some x) :
    ∃ (A : Option Addr) (c : Nat) (l : List Cl), cs = [.slice A l.length c] ∧ l.length ≤ c ∧ c ≤ maxLen ∧ (Rd w w.heap.size A (vals l) ∧ ∀ x ∈ l, x.okA) := by
  obtain ⟨A, c, l, e, h1, h2, h3, h4, _⟩ := open_things (enc' := Cl.vals) (k := 6) (p := Cl.okA) Cl.vals_len6 (by omega) Try.underlying23 cells_cell nilCl (fun h => open_cell h) h
  exact ⟨A, c, l, e, h1, h2, h3, h4⟩
theorem open_texts {fuel : Nat} {cs : List Value} {x : DataW H × List MemPlace} (h : DataW.trod enc Try.prog w base spare held fuel 43 cs = some x) :
    ∃ (A : Option Addr) (c : Nat) (l : List ByteArray), cs = [.slice A l.length c] ∧ l.length ≤ c ∧ c ≤ maxLen ∧ (Rd w w.heap.size A (txs l) ∧ ∀ x ∈ l, x.size ≤ maxLen) := by
  obtain ⟨A, c, l, e, h1, h2, h3, h4, _⟩ := open_things (enc' := fun s : ByteArray => [Value.string s]) (k := 1) (p := fun s => s.size ≤ maxLen) (fun _ => rfl) (by omega) Try.underlying43 cells_text ⟨#[]⟩ (fun h => by
    obtain ⟨s, e, _, hz⟩ := DataW.trod_string Try.underlying9 h
    exact ⟨s, e, hz⟩) h
  exact ⟨A, c, l, e, h1, h2, by unfold txs; rw [List.map_eq_flatMap]; exact h3, h4⟩
theorem open_u32s {fuel : Nat} {cs : List Value} {x : DataW H × List MemPlace} (h : DataW.trod enc Try.prog w base spare held fuel 25 cs = some x) :
    ∃ (A : Option Addr) (c : Nat) (l : List Nat), cs = [.slice A l.length c] ∧ l.length ≤ c ∧ c ≤ maxLen ∧ (Rd w w.heap.size A (u32s l) ∧ ∀ x ∈ l, x < 256 ^ 4) := by
  obtain ⟨A, c, l, e, h1, h2, h3, h4, _⟩ := open_things (enc' := fun n : Nat => [Value.int .u32 (n : Int)]) (k := 1) (p := fun n => n < 256 ^ 4) (fun _ => rfl) (by omega) Try.underlying25 cells_u32 0 (fun h => by
    obtain ⟨s, e, _, hz⟩ := DataW.trod_int Try.underlying24 h
    obtain ⟨n, rfl, hn⟩ := fit32_of hz
    exact ⟨n, e, hn⟩) h
  exact ⟨A, c, l, e, h1, h2, by unfold u32s; rw [List.map_eq_flatMap]; exact h3, h4⟩
theorem open_cmd {fuel : Nat} {cs : List Value} {x : DataW H × List MemPlace} (h : DataW.trod enc Try.prog w base spare held fuel 27 cs = some x) : ∃ y : CA, cs = y.vs ∧ y.ok w := by
  obtain ⟨xs, n, _, _, hl, hlen, hf⟩ := DataW.trod_struct Try.underlying27 h
  rw [cells_cmd] at hl
  match cs, hl with
  | [v0, v1, v2, v3, v4, v5, v6, v7, v8], _ =>
    match xs, hlen with
    | [y0, y1, y2, y3, y4, y5, y6, y7, y8], _ =>
      have f0 := hf 0 _ rfl
      have f1 := hf 1 _ rfl
      have f2 := hf 2 _ rfl
      have f3 := hf 3 _ rfl
      have f4 := hf 4 _ rfl
      have f5 := hf 5 _ rfl
      have f6 := hf 6 _ rfl
      have f7 := hf 7 _ rfl
      have f8 := hf 8 _ rfl
      simp only [List.getElem?_cons_zero, List.getElem?_cons_succ] at f0 f1 f2 f3 f4 f5 f6 f7 f8
      obtain ⟨n0, e0, _, w0⟩ := DataW.trod_int Try.underlying3 f0
      obtain ⟨n1, e1, _, w1⟩ := DataW.trod_int Try.underlying22 f1
      obtain ⟨n2, e2, _, w2⟩ := DataW.trod_int Try.underlying22 f2
      obtain ⟨A3, k3, l3, e3, b3, c3, r3, o3⟩ := open_cells f3
      obtain ⟨s4, e4, _, z4⟩ := DataW.trod_string Try.underlying9 f4
      obtain ⟨n5, e5, _, w5⟩ := DataW.trod_int Try.underlying22 f5
      obtain ⟨n6, e6, _, w6⟩ := DataW.trod_int Try.underlying24 f6
      obtain ⟨n7, e7, _, w7⟩ := DataW.trod_int Try.underlying22 f7
      obtain ⟨A8, k8, l8, e8, b8, c8, r8, o8⟩ := open_u32s f8
      obtain ⟨m1, rfl, q1⟩ := fit_of w1
      obtain ⟨m2, rfl, q2⟩ := fit_of w2
      obtain ⟨m5, rfl, q5⟩ := fit_of w5
      obtain ⟨m6, rfl, q6⟩ := fit32_of w6
      obtain ⟨m7, rfl, q7⟩ := fit_of w7
      have q0 := wf_i64 w0
      injection e0 with e0
      injection e1 with e1
      injection e2 with e2
      injection e3 with e3
      injection e4 with e4
      injection e5 with e5
      injection e6 with e6
      injection e7 with e7
      injection e8 with e8
      subst e0 e1 e2 e3 e4 e5 e6 e7 e8
      exact ⟨⟨⟨n0, m1, m2, l3, s4, m5, m6, m7, l8⟩, A3, k3, A8, k8⟩, rfl, ⟨r3, r8, b3, b8, c3, c8⟩, ⟨q1, q2, fun x hx => (o3 x hx).1, q5, q6, q7, o8⟩, z4, fun x hx => (o3 x hx).2, q0.1, q0.2⟩
theorem CA.vs_len (x : CA) : x.vs.length = 9 := rfl
def cas (l : List CA) : List Value := l.flatMap CA.vs
theorem open_cmds {fuel : Nat} {cs : List Value} {x : DataW H × List MemPlace} (h : DataW.trod enc Try.prog w base spare held fuel 42 cs = some x) :
    ∃ (A : Option Addr) (c : Nat) (l : List CA), cs = [.slice A l.length c] ∧ l.length ≤ c ∧ c ≤ maxLen ∧ (Rd w w.heap.size A (cas l) ∧ ∀ x ∈ l, x.ok w) := by
  obtain ⟨A, c, l, e, h1, h2, h3, h4, _⟩ := open_things (enc' := CA.vs) (k := 9) (p := fun x => x.ok w) CA.vs_len (by omega) Try.underlying42 cells_cmd ⟨zeroC, none, 0, none, 0⟩ (fun h => open_cmd h) h
  exact ⟨A, c, l, e, h1, h2, h3, h4⟩
theorem agg_of {cs : Array Value} {l : List Value} (h : (Value.cells (.agg cs)).toList = l) : cs = l.toArray := by
  subst h
  simp [Value.cells]
theorem shut_truth (b : Bool) : DataW.Trod enc Try.prog w base spare held 4 (.bool b) (.lit (.bool b)) [] := ⟨1, by simp [DataW.trod, Value.cells, Try.underlying4]⟩
end
section
variable {H : Type} {enc : TypeId × Value → H} {P : Program} {w : World} {base : Nat} {spare : Nat → Bool} {held : Bool}
theorem trodAll_five {t t' t'' t3 t4 : TypeId} {args : Array Value} {ds : List (DataW H)} {ps : List MemPlace} (h : DataW.TrodAll enc P w base spare held [t, t', t'', t3, t4] args.toList ds ps) :
    ∃ v v' v'' v3 v4 d d' d'' d3 d4 p p' p'' p3 p4, args = #[v, v', v'', v3, v4] ∧ ds = [d, d', d'', d3, d4] ∧ ps = p ++ p' ++ p'' ++ p3 ++ p4 ∧ DataW.Trod enc P w base spare held t v d p ∧ DataW.Trod enc P w base spare held t' v' d' p' ∧ DataW.Trod enc P w base spare held t'' v'' d'' p'' ∧ DataW.Trod enc P w base spare held t3 v3 d3 p3 ∧ DataW.Trod enc P w base spare held t4 v4 d4 p4 := by
  obtain ⟨v, vs, d, ds', p, q, hargs, rfl, rfl, hd, hrest⟩ := trodAll_cons h
  obtain ⟨v', vs', d', ds'', p', q', rfl, rfl, rfl, hd', hrest'⟩ := trodAll_cons hrest
  obtain ⟨v'', vs'', d'', ds''', p'', q'', rfl, rfl, rfl, hd'', hrest''⟩ := trodAll_cons hrest'
  obtain ⟨v3, vs3, d3, ds3, p3, q3, rfl, rfl, rfl, hd3, hrest3⟩ := trodAll_cons hrest''
  obtain ⟨v4, vs4, d4, ds4, p4, q4, rfl, rfl, rfl, hd4, hrest4⟩ := trodAll_cons hrest3
  obtain ⟨rfl, rfl, rfl⟩ := trodAll_nil hrest4
  exact ⟨v, v', v'', v3, v4, d, d', d'', d3, d4, p, p', p'', p3, p4, by cases args; simp_all, rfl, by simp, hd, hd', hd'', hd3, hd4⟩
theorem trodAll_mk5 {t t' t'' t3 t4 : TypeId} {v v' v'' v3 v4 : Value} {d d' d'' d3 d4 : DataW H} {p p' p'' p3 p4 : List MemPlace} (h : DataW.Trod enc P w base spare held t v d p) (h' : DataW.Trod enc P w base spare held t' v' d' p')
    (h'' : DataW.Trod enc P w base spare held t'' v'' d'' p'') (h3 : DataW.Trod enc P w base spare held t3 v3 d3 p3) (h4 : DataW.Trod enc P w base spare held t4 v4 d4 p4) : DataW.TrodAll enc P w base spare held [t, t', t'', t3, t4] [v, v', v'', v3, v4] [d, d', d'', d3, d4] (p ++ (p' ++ (p'' ++ (p3 ++ p4)))) := ⟨p, p' ++ (p'' ++ (p3 ++ p4)), h, trodAll_mk4 h' h'' h3 h4, rfl⟩
end
end Go.Proofs.Ytiiogdgnccgehaa
