/-
  rickyardlaw14.ViewSpans answers true, whatever the cells, the sequence and the rows; it does not panic, and its arguments read as they did. No conditions.
-/
import Derived.Test.YtoligmmjmghgnaaRowKit14
import Derived.Test.YtoligmmjmghgnaaLawSpans14
namespace Go.Proofs.Ytoligmmjmghgnaa
open Go.ChangeShapes Go.WideShapes Go.ChangeAt Go.RowKit

theorem viewSpans_any (A : Option Addr) (c : Nat) (l : List Cl) (at_ : Nat) (fr tl : ByteArray) (w : World) (hl : Rd w w.heap.size A (cls l)) (hlen : l.length ≤ maxLen) :
    Calls Try.prog 5 #[.slice A l.length c, .int .u64 (at_ : Int), .string fr, .string tl] w fun e w' => e = .returned (.bool true) ∧ Below w.heap.size w w' := by
  cases hb : bnd l with
  | false => exact spans_wide A c l.length at_ l fr tl w hl rfl hlen (.inl hb)
  | true =>
    by_cases h : 100 < fr.size ∨ 100 < tl.size
    · exact spans_wide A c l.length at_ l fr tl w hl rfl hlen (.inr h)
    · exact spans_any A c l.length at_ l fr tl w hl rfl hlen hb (by omega) (by omega)

set_option maxHeartbeats 800000 in
set_option maxRecDepth 100000 in
theorem viewSpans_lifted (os : Os) (started : os.Started) (H : Type) (enc : TypeId × Value → H) :
    ReturnsInHanded {} Try.checked os 5 .any (Rows.viewSpansSpec.pre6 enc Try.prog Try.f5 Rows.viewSpansRow.domain false) (Rows.viewSpansSpec.post enc Try.prog Try.f5 false true false false) := by
  refine returnsInHanded_of_change (C := Try.checked) Try.own started (by kernel_rfl) Try.func5
    (ChangeSpec.witness6 (enc := enc) (C := Try.checked) false ⟨#[], #[.slice none 0 0, .int .u64 0, .string ⟨#[]⟩, .string ⟨#[]⟩], []⟩ 8 (by kernel_rfl) (by kernel_rfl) (by kernel_rfl) (by kernel_rfl)) ?_
  intro W base args ds gs before hval0 hW hcnd _
  have hval : ∀ (j : Nat) t v, Try.f5.params[j]? = some t → args[j]? = some v → Value.okWide Try.prog W .any base t v := hval0
  have hW' := hW
  obtain ⟨p, q, hA0, hV, rfl, hfz, hnd⟩ := hW
  have hA : DataW.TrodAll enc Try.prog W 0 (fun _ => true) true Try.f5.params.toList args.toList ds p := hA0
  rw [Try.params5] at hA hval
  obtain ⟨v0, v1, v2, v3, d0, d1, d2, d3, p0, p1, p2, p3, rfl, rfl, rfl, h0, h1, h2, h3⟩ := trodAll_four hA
  obtain ⟨rfl, rfl⟩ := trodVars_none hV
  have hlt0 : ∀ x ∈ p0, x.block < W.heap.size := fun x hx => hW'.lt x (by simp [hx])
  obtain ⟨a0, len0, cap0, rfl⟩ := okWide_slice Try.underlying26 (hval 0 26 v0 rfl rfl)
  have h0k := h0
  obtain ⟨fuel0, hf0⟩ := h0
  obtain ⟨A_l, c_l, l, e0, hc_l, hm0, hrd_l⟩ := open_cells hf0
  simp [Value.cells] at e0
  obtain ⟨rfl, rfl, rfl⟩ := e0
  obtain ⟨ats, rfl, rfl, rfl, hwf1⟩ := open_int Try.underlying23 (hval 1 23 v1 rfl rfl) h1
  have hw_ats := wf_u64 hwf1
  obtain ⟨ats, rfl⟩ : ∃ k : Nat, ats = k := ⟨ats.toNat, by omega⟩
  obtain ⟨fr, rfl, rfl, rfl, hw_fr⟩ := Go.ChangeMaps.open_string Try.underlying9 (hval 2 9 v2 rfl rfl) h2
  obtain ⟨tl, rfl, rfl, rfl, hw_tl⟩ := Go.ChangeMaps.open_string Try.underlying9 (hval 3 9 v3 rfl rfl) h3
  refine (viewSpans_any _ _ l ats fr tl W hrd_l (Nat.le_trans hc_l hm0)).mono ?_
  rintro e W' ⟨rfl, hb⟩
  refine ⟨_, rfl, _, _, _, [], (p0 ++ ([] ++ ([] ++ []))), [], hW', ?_, ?_, rfl, hb.frame _, fun h => by cases h⟩
  · exact trodAll_mk1 (shut_truth true)
  · exact trodAll_mk4 (Below.trod Try.laidOut (by kernel_rfl) (of_decide_eq_true (by kernel_rfl)) h0k hb hlt0) (shut_int Try.underlying23 hwf1) (Go.ChangeMaps.shut_string Try.underlying9 hw_fr) (Go.ChangeMaps.shut_string Try.underlying9 hw_tl)

theorem viewSpans_holds : Rows.ViewSpansSaid :=
  OpenClaim.holds_of_wide 5 Try.f5 rfl rfl rfl rfl rfl rfl rfl ⟨rfl, rfl, rfl, rfl, rfl⟩ rfl rfl rfl rfl rfl (by kernel_rfl) Try.func5 (by kernel_rfl)
    (of_decide_eq_true (by kernel_rfl)) (by unfold Func.isWrapper; first | (rw [if_pos (by decide +kernel)]; kernel_rfl) | (rw [if_neg (by decide +kernel)]; exact ⟨rfl, rfl⟩))
    (fun os started H enc _ => viewSpans_lifted os started H enc)

#print axioms viewSpans_holds
end Go.Proofs.Ytoligmmjmghgnaa
