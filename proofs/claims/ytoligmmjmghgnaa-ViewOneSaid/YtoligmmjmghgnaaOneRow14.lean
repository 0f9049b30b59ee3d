/-
  rickyardlaw14.ViewOne answers true, whatever the lists and the sequence; it does not panic, and its arguments read as they did. No conditions.
-/
import Derived.Test.YtoligmmjmghgnaaRowKit14
import Derived.Test.YtoligmmjmghgnaaLawOne14
namespace Go.Proofs.Ytoligmmjmghgnaa
open Go.ChangeShapes Go.WideShapes Go.ChangeAt Go.RowKit

theorem viewOne_any (A : Option Addr) (c : Nat) (L : List Cs) (at_ : Nat) (w : World) (h : Rd w w.heap.size A (L.map Cs.val) ∧ CsIn w w.heap.size L ∧ ∀ y ∈ L, y.l.length ≤ maxLen ∧ y.l.length ≤ y.c) (hlen : L.length ≤ maxLen) :
    Calls Try.prog 3 #[.slice A L.length c, .int .u64 (at_ : Int)] w fun e w' => e = .returned (.bool true) ∧ Below w.heap.size w w' :=
  one_any A c L.length at_ L w h.1 h.2.1 (fun x hx => (h.2.2 x hx).1) rfl hlen

set_option maxHeartbeats 800000 in
set_option maxRecDepth 100000 in
theorem viewOne_lifted (os : Os) (started : os.Started) (H : Type) (enc : TypeId × Value → H) :
    ReturnsInHanded {} Try.checked os 3 .any (Rows.viewOneSpec.pre6 enc Try.prog Try.f3 Rows.viewOneRow.domain false) (Rows.viewOneSpec.post enc Try.prog Try.f3 false true false false) := by
  refine returnsInHanded_of_change (C := Try.checked) Try.own started (by kernel_rfl) Try.func3
    (ChangeSpec.witness6 (enc := enc) (C := Try.checked) false ⟨#[], #[.slice none 0 0, .int .u64 0], []⟩ 8 (by kernel_rfl) (by kernel_rfl) (by kernel_rfl) (by kernel_rfl)) ?_
  intro W base args ds gs before hval0 hW hcnd _
  have hval : ∀ (j : Nat) t v, Try.f3.params[j]? = some t → args[j]? = some v → Value.okWide Try.prog W .any base t v := hval0
  have hW' := hW
  obtain ⟨p, q, hA0, hV, rfl, hfz, hnd⟩ := hW
  have hA : DataW.TrodAll enc Try.prog W 0 (fun _ => true) true Try.f3.params.toList args.toList ds p := hA0
  rw [Try.params3] at hA hval
  obtain ⟨v0, v1, d0, d1, p0, p1, rfl, rfl, rfl, h0, h1⟩ := trodAll_two hA
  obtain ⟨rfl, rfl⟩ := trodVars_none hV
  have hlt0 : ∀ x ∈ p0, x.block < W.heap.size := fun x hx => hW'.lt x (by simp [hx])
  obtain ⟨a0, len0, cap0, rfl⟩ := okWide_slice Try.underlying22 (hval 0 22 v0 rfl rfl)
  have h0k := h0
  obtain ⟨fuel0, hf0⟩ := h0
  obtain ⟨A_l, c_l, l, e0, hc_l, hm0, hrd_l⟩ := open_lists hf0
  simp [Value.cells] at e0
  obtain ⟨rfl, rfl, rfl⟩ := e0
  obtain ⟨ats, rfl, rfl, rfl, hwf1⟩ := open_int Try.underlying23 (hval 1 23 v1 rfl rfl) h1
  have hw_ats := wf_u64 hwf1
  obtain ⟨ats, rfl⟩ : ∃ k : Nat, ats = k := ⟨ats.toNat, by omega⟩
  refine (viewOne_any _ _ l ats W hrd_l (Nat.le_trans hc_l hm0)).mono ?_
  rintro e W' ⟨rfl, hb⟩
  refine ⟨_, rfl, _, _, _, [], (p0 ++ []), [], hW', ?_, ?_, rfl, hb.frame _, fun h => by cases h⟩
  · exact trodAll_mk1 (shut_truth true)
  · exact trodAll_mk2 (Below.trod Try.laidOut (by kernel_rfl) (of_decide_eq_true (by kernel_rfl)) h0k hb hlt0) (shut_int Try.underlying23 hwf1)

theorem viewOne_holds : Rows.ViewOneSaid :=
  OpenClaim.holds_of_wide 3 Try.f3 rfl rfl rfl rfl rfl rfl rfl ⟨rfl, rfl, rfl, rfl, rfl⟩ rfl rfl rfl rfl rfl (by kernel_rfl) Try.func3 (by kernel_rfl)
    (of_decide_eq_true (by kernel_rfl)) (by unfold Func.isWrapper; first | (rw [if_pos (by decide +kernel)]; kernel_rfl) | (rw [if_neg (by decide +kernel)]; exact ⟨rfl, rfl⟩))
    (fun os started H enc _ => viewOne_lifted os started H enc)

#print axioms viewOne_holds
end Go.Proofs.Ytoligmmjmghgnaa
