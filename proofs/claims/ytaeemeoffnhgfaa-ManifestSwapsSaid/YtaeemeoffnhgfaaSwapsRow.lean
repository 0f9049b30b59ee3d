/-
  rickyardlaw13.ManifestSwaps answers true, whatever the file and the name; it does not panic, and its arguments read as they did. No conditions.
-/
import Derived.Test.YtaeemeoffnhgfaaRowKit13
import Derived.Test.YtaeemeoffnhgfaaLawSwapsM
namespace Go.Proofs.Ytaeemeoffnhgfaa
open Go.ChangeShapes Go.WideShapes Go.ChangeAt Go.RowKit

theorem manifestSwaps_any (f : Fi) (name : ByteArray) (w : World) :
    Calls Try.prog 3 #[f.agg, .string name] w fun e w' => e = .returned (.bool true) ∧ Below w.heap.size w w' := by
  by_cases h1 : bndOne f = false ∨ 100 < name.size ∨ may f = false ∨ name = f.name
  · exact swaps_wide f name w h1
  · have hb : bndOne f = true := by
      cases h : bndOne f with
      | true => rfl
      | false => exact absurd (Or.inl h) h1
    have hn : name.size ≤ 100 := by
      rcases Nat.lt_or_ge 100 name.size with h | h
      · exact absurd (Or.inr (Or.inl h)) h1
      · exact h
    have hm : may f = true := by
      cases h : may f with
      | true => rfl
      | false => exact absurd (Or.inr (Or.inr (Or.inl h))) h1
    have hne : name ≠ f.name := fun h => h1 (Or.inr (Or.inr (Or.inr h)))
    cases hg : may (⟨f.level, name, f.low, f.high, f.many⟩ : Fi) with
    | false => exact swaps_bad f name w hb hn hm hne hg
    | true => exact swaps_ok f name w hb hn hm hne hg

set_option maxHeartbeats 800000 in
set_option maxRecDepth 100000 in
theorem manifestSwaps_lifted (os : Os) (started : os.Started) (H : Type) (enc : TypeId × Value → H) :
    ReturnsInHanded {} Try.checked os 3 .any (Rows.manifestSwapsSpec.pre6 enc Try.prog Try.f3 Rows.manifestSwapsRow.domain false) (Rows.manifestSwapsSpec.post enc Try.prog Try.f3 false true false false) := by
  refine returnsInHanded_of_change (C := Try.checked) Try.own started (by kernel_rfl) Try.func3
    (ChangeSpec.witness6 (enc := enc) (C := Try.checked) false ⟨#[], #[.agg #[.int .i64 0, .string ⟨#[]⟩, .string ⟨#[]⟩, .string ⟨#[]⟩, .int .i64 0], .string ⟨#[]⟩], []⟩ 8 (by kernel_rfl) (by kernel_rfl) (by kernel_rfl) (by kernel_rfl)) ?_
  intro W base args ds gs before hval0 hW hcnd _
  have hval : ∀ (j : Nat) t v, Try.f3.params[j]? = some t → args[j]? = some v → Value.okWide Try.prog W .any base t v := hval0
  have hW' := hW
  obtain ⟨p, q, hA0, hV, rfl, hfz, hnd⟩ := hW
  have hA : DataW.TrodAll enc Try.prog W 0 (fun _ => true) true Try.f3.params.toList args.toList ds p := hA0
  rw [Try.params3] at hA hval
  obtain ⟨v0, v1, d0, d1, p0, p1, rfl, rfl, rfl, h0, h1⟩ := trodAll_two hA
  obtain ⟨rfl, rfl⟩ := trodVars_none hV
  have hlt0 : ∀ x ∈ p0, x.block < W.heap.size := fun x hx => hW'.lt x (by simp [hx])
  obtain ⟨cs0, rfl, _⟩ := okWide_struct Try.underlying23 (hval 0 23 v0 rfl rfl)
  have h0k := h0
  obtain ⟨fuel0, hf0⟩ := h0
  obtain ⟨f, e0, hw_f⟩ := open_file hf0
  obtain rfl := agg_of e0
  obtain ⟨name, rfl, rfl, rfl, hw_name⟩ := Go.ChangeMaps.open_string Try.underlying9 (hval 1 9 v1 rfl rfl) h1
  refine (manifestSwaps_any f name W).mono ?_
  rintro e W' ⟨rfl, hb⟩
  refine ⟨_, rfl, _, _, _, [], (p0 ++ []), [], hW', ?_, ?_, rfl, hb.frame _, fun h => by cases h⟩
  · exact trodAll_mk1 (shut_truth true)
  · exact trodAll_mk2 (Below.trod Try.laidOut (by kernel_rfl) (of_decide_eq_true (by kernel_rfl)) h0k hb hlt0) (Go.ChangeMaps.shut_string Try.underlying9 hw_name)

theorem manifestSwaps_holds : Rows.ManifestSwapsSaid :=
  OpenClaim.holds_of_wide 3 Try.f3 rfl rfl rfl rfl rfl rfl rfl ⟨rfl, rfl, rfl, rfl, rfl⟩ rfl rfl rfl rfl rfl (by kernel_rfl) Try.func3 (by kernel_rfl)
    (of_decide_eq_true (by kernel_rfl)) (by unfold Func.isWrapper; first | (rw [if_pos (by decide +kernel)]; kernel_rfl) | (rw [if_neg (by decide +kernel)]; exact ⟨rfl, rfl⟩))
    (fun os started H enc _ => manifestSwaps_lifted os started H enc)

#print axioms manifestSwaps_holds
end Go.Proofs.Ytaeemeoffnhgfaa
