/-
  rickyardlaw14.ViewTwice answers true, whatever the cells, the floor and the flag; it does not panic, and its arguments read as they did. No conditions.
-/
import Derived.Test.YtoligmmjmghgnaaRowKit14
import Derived.Test.YtoligmmjmghgnaaLawTwice14
namespace Go.Proofs.Ytoligmmjmghgnaa
open Go.ChangeShapes Go.WideShapes Go.ChangeAt Go.RowKit Go.Deep

def Cl.fit (c : Cl) : Prop := c.seq < 18446744073709551616
def nilCl : Cl := ⟨⟨#[]⟩, ⟨#[]⟩, 0, 0, false, ⟨#[]⟩⟩
theorem viewTwice_any (A : Option Addr) (c : Nat) (l : List Cl) (fl : Nat) (last : Bool) (w : World) (hl : Rd w w.heap.size A (cls l) ∧ ∀ x ∈ l, x.fit) (hlen : l.length ≤ maxLen) :
    Calls Try.prog 6 #[.slice A l.length c, .int .u64 (fl : Int), .bool last] w fun e w' => e = .returned (.bool true) ∧ Below w.heap.size w w' := by
  cases hb : bnd l with
  | false => exact twice_wide A c l.length fl last l w hl.1 rfl hlen hb
  | true => exact twice_any A c l.length fl last l w hl.1 rfl hlen hb fun x hx => Nat.le_of_lt_succ (hl.2 x hx)

section
variable {H : Type} {enc : TypeId × Value → H} {w : World} {base : Nat} {spare : Nat → Bool} {held : Bool}
theorem fit_of {n : Int} (h : (Lit.int .u64 n).wf = true) : ∃ k : Nat, n = k ∧ k < 18446744073709551616 := by
  have := wf_u64 h
  exact ⟨n.toNat, by omega, by omega⟩
theorem open_fone {fuel : Nat} {cs : List Value} {x : DataW H × List MemPlace} (h : DataW.trod enc Try.prog w base spare held fuel 29 cs = some x) : ∃ c : Cl, cs = c.vals ∧ c.fit := by
  obtain ⟨xs, n, _, _, hl, hlen, hf⟩ := DataW.trod_struct Try.underlying29 h
  rw [cells_cell] at hl
  match cs, hl with
  | [v0, v1, v2, v3, v4, v5], _ =>
    match xs, hlen with
    | [y0, y1, y2, y3, y4, y5], _ =>
      have f0 := hf 0 _ rfl
      have f1 := hf 1 _ rfl
      have f2 := hf 2 _ rfl
      have f3 := hf 3 _ rfl
      have f4 := hf 4 _ rfl
      have f5 := hf 5 _ rfl
      simp only [cells_text, cells_num, cells_bool, List.drop_zero, List.drop_succ_cons, List.take_succ_cons, List.take_zero, List.getElem?_cons_zero, List.getElem?_cons_succ] at f0 f1 f2 f3 f4 f5
      obtain ⟨s0, e0, _, _⟩ := DataW.trod_string Try.underlying9 f0
      obtain ⟨s1, e1, _, _⟩ := DataW.trod_string Try.underlying9 f1
      obtain ⟨n2, e2, _, w2⟩ := DataW.trod_int Try.underlying23 f2
      obtain ⟨n3, e3, _, w3⟩ := DataW.trod_int Try.underlying23 f3
      obtain ⟨b4, e4, _⟩ := DataW.trod_bool Try.underlying4 f4
      obtain ⟨s5, e5, _, _⟩ := DataW.trod_string Try.underlying9 f5
      obtain ⟨k2, rfl, _⟩ := fit_of w2
      obtain ⟨k3, rfl, hk⟩ := fit_of w3
      injection e0 with e0
      injection e1 with e1
      injection e2 with e2
      injection e3 with e3
      injection e4 with e4
      injection e5 with e5
      subst e0 e1 e2 e3 e4 e5
      exact ⟨⟨s0, s1, k2, k3, b4, s5⟩, rfl, hk⟩
theorem open_fcells {fuel : Nat} {cs : List Value} {x : DataW H × List MemPlace} (h : DataW.trod enc Try.prog w base spare held fuel 26 cs = some x) :
    ∃ (A : Option Addr) (c : Nat) (l : List Cl), cs = [.slice A l.length c] ∧ l.length ≤ c ∧ c ≤ maxLen ∧ (Rd w w.heap.size A (cls l) ∧ ∀ x ∈ l, x.fit) := by
  obtain ⟨A, c, l, e, h1, h2, h3, h4, _⟩ := open_things (enc' := Cl.vals) (k := 6) (p := Cl.fit) Cl.vals_len (by omega) Try.underlying26 cells_cell nilCl (fun h => open_fone h) h
  exact ⟨A, c, l, e, h1, h2, h3, h4⟩
end

set_option maxHeartbeats 800000 in
set_option maxRecDepth 100000 in
theorem viewTwice_lifted (os : Os) (started : os.Started) (H : Type) (enc : TypeId × Value → H) :
    ReturnsInHanded {} Try.checked os 6 .any (Rows.viewTwiceSpec.pre6 enc Try.prog Try.f6 Rows.viewTwiceRow.domain false) (Rows.viewTwiceSpec.post enc Try.prog Try.f6 false true false false) := by
  refine returnsInHanded_of_change (C := Try.checked) Try.own started (by kernel_rfl) Try.func6
    (ChangeSpec.witness6 (enc := enc) (C := Try.checked) false ⟨#[], #[.slice none 0 0, .int .u64 0, .bool false], []⟩ 8 (by kernel_rfl) (by kernel_rfl) (by kernel_rfl) (by kernel_rfl)) ?_
  intro W base args ds gs before hval0 hW hcnd _
  have hval : ∀ (j : Nat) t v, Try.f6.params[j]? = some t → args[j]? = some v → Value.okWide Try.prog W .any base t v := hval0
  have hW' := hW
  obtain ⟨p, q, hA0, hV, rfl, hfz, hnd⟩ := hW
  have hA : DataW.TrodAll enc Try.prog W 0 (fun _ => true) true Try.f6.params.toList args.toList ds p := hA0
  rw [Try.params6] at hA hval
  obtain ⟨v0, v1, v2, d0, d1, d2, p0, p1, p2, rfl, rfl, rfl, h0, h1, h2⟩ := trodAll_three hA
  obtain ⟨rfl, rfl⟩ := trodVars_none hV
  have hlt0 : ∀ x ∈ p0, x.block < W.heap.size := fun x hx => hW'.lt x (by simp [hx])
  obtain ⟨a0, len0, cap0, rfl⟩ := okWide_slice Try.underlying26 (hval 0 26 v0 rfl rfl)
  have h0k := h0
  obtain ⟨fuel0, hf0⟩ := h0
  obtain ⟨A_l, c_l, l, e0, hc_l, hm0, hrd_l⟩ := open_fcells hf0
  simp [Value.cells] at e0
  obtain ⟨rfl, rfl, rfl⟩ := e0
  obtain ⟨fl, rfl, rfl, rfl, hwf1⟩ := open_int Try.underlying23 (hval 1 23 v1 rfl rfl) h1
  have hw_fl := wf_u64 hwf1
  obtain ⟨fl, rfl⟩ : ∃ k : Nat, fl = k := ⟨fl.toNat, by omega⟩
  obtain ⟨last, rfl, rfl, rfl⟩ := open_bool Try.underlying4 (hval 2 4 v2 rfl rfl) h2
  refine (viewTwice_any _ _ l fl last W hrd_l (Nat.le_trans hc_l hm0)).mono ?_
  rintro e W' ⟨rfl, hb⟩
  refine ⟨_, rfl, _, _, _, [], (p0 ++ ([] ++ [])), [], hW', ?_, ?_, rfl, hb.frame _, fun h => by cases h⟩
  · exact trodAll_mk1 (shut_truth true)
  · exact trodAll_mk3 (Below.trod Try.laidOut (by kernel_rfl) (of_decide_eq_true (by kernel_rfl)) h0k hb hlt0) (shut_int Try.underlying23 hwf1) (shut_bool Try.underlying4 last)

theorem viewTwice_holds : Rows.ViewTwiceSaid :=
  OpenClaim.holds_of_wide 6 Try.f6 rfl rfl rfl rfl rfl rfl rfl ⟨rfl, rfl, rfl, rfl, rfl⟩ rfl rfl rfl rfl rfl (by kernel_rfl) Try.func6 (by kernel_rfl)
    (of_decide_eq_true (by kernel_rfl)) (by unfold Func.isWrapper; first | (rw [if_pos (by decide +kernel)]; kernel_rfl) | (rw [if_neg (by decide +kernel)]; exact ⟨rfl, rfl⟩))
    (fun os started H enc _ => viewTwice_lifted os started H enc)

#print axioms viewTwice_holds
end Go.Proofs.Ytoligmmjmghgnaa
