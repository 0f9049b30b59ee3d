/-
  rickyardlaw13.ManifestErrors answers true, whatever the file, the name and the two numbers; it does not panic, and its arguments read as they did. No conditions.
-/
import Derived.Test.YtaeemeoffnhgfaaRowKit13
namespace Go.Proofs.Ytaeemeoffnhgfaa
open Go.ChangeShapes Go.WideShapes Go.ChangeAt Go.RowKit

theorem manifestErrors_any (f : Fi) (name : ByteArray) (p q : Int) (w : World) (hp : 0 ≤ p ∧ p ≤ 255) (hq : 0 ≤ q ∧ q ≤ 255) :
    Calls Try.prog 4 #[f.agg, .string name, .int .u8 p, .int .u8 q] w fun e w' => e = .returned (.bool true) ∧ Below w.heap.size w w' := by
  by_cases h1 : bndOne f = false ∨ 100 < name.size
  · exact errors_wide f name p q w h1
  · have hb : bndOne f = true := by
      cases h : bndOne f with
      | true => rfl
      | false => exact absurd (Or.inl h) h1
    have hn : name.size ≤ 100 := by
      rcases Nat.lt_or_ge 100 name.size with h | h
      · exact absurd (Or.inr h) h1
      · exact h
    cases hm : may f with
    | false => exact errors_arg f name p q w hb hn hp hq hm
    | true =>
      by_cases hl : p < 5 ∨ q < 5
      · exact errors_low f name p q w hb hn hp hq hm hl
      · have hl' : 5 ≤ p ∧ 5 ≤ q := by omega
        by_cases hne : fA.name = name
        · by_cases hf : fA.name = f.name
          · exact errors_twice f name p q w hb hn hp hq hm hl' hne hf
          · cases hc : clash fA f with
            | true => exact errors_meet f name p q w hb hn hp hq hm hl' hne hf hc
            | false => exact errors_both f name p q w hb hn hp hq hm hl' hne hf hc
        · exact errors_none f name p q w hb hn hp hq hm hl' hne

set_option maxHeartbeats 800000 in
set_option maxRecDepth 100000 in
theorem manifestErrors_lifted (os : Os) (started : os.Started) (H : Type) (enc : TypeId × Value → H) :
    ReturnsInHanded {} Try.checked os 4 .any (Rows.manifestErrorsSpec.pre6 enc Try.prog Try.f4 Rows.manifestErrorsRow.domain false) (Rows.manifestErrorsSpec.post enc Try.prog Try.f4 false true false false) := by
  refine returnsInHanded_of_change (C := Try.checked) Try.own started (by kernel_rfl) Try.func4
    (ChangeSpec.witness6 (enc := enc) (C := Try.checked) false ⟨#[], #[.agg #[.int .i64 0, .string ⟨#[]⟩, .string ⟨#[]⟩, .string ⟨#[]⟩, .int .i64 0], .string ⟨#[]⟩, .int .u8 0, .int .u8 0], []⟩ 8 (by kernel_rfl) (by kernel_rfl) (by kernel_rfl) (by kernel_rfl)) ?_
  intro W base args ds gs before hval0 hW hcnd _
  have hval : ∀ (j : Nat) t v, Try.f4.params[j]? = some t → args[j]? = some v → Value.okWide Try.prog W .any base t v := hval0
  have hW' := hW
  obtain ⟨p, q, hA0, hV, rfl, hfz, hnd⟩ := hW
  have hA : DataW.TrodAll enc Try.prog W 0 (fun _ => true) true Try.f4.params.toList args.toList ds p := hA0
  rw [Try.params4] at hA hval
  obtain ⟨v0, v1, v2, v3, d0, d1, d2, d3, p0, p1, p2, p3, rfl, rfl, rfl, h0, h1, h2, h3⟩ := trodAll_four hA
  obtain ⟨rfl, rfl⟩ := trodVars_none hV
  have hlt0 : ∀ x ∈ p0, x.block < W.heap.size := fun x hx => hW'.lt x (by simp [hx])
  obtain ⟨cs0, rfl, _⟩ := okWide_struct Try.underlying23 (hval 0 23 v0 rfl rfl)
  have h0k := h0
  obtain ⟨fuel0, hf0⟩ := h0
  obtain ⟨f, e0, hw_f⟩ := open_file hf0
  obtain rfl := agg_of e0
  obtain ⟨name, rfl, rfl, rfl, hw_name⟩ := Go.ChangeMaps.open_string Try.underlying9 (hval 1 9 v1 rfl rfl) h1
  obtain ⟨i, rfl, rfl, rfl, hwf2⟩ := open_int Try.underlying5 (hval 2 5 v2 rfl rfl) h2
  have hw_i := wf_u8 hwf2
  obtain ⟨i, rfl⟩ : ∃ k : Nat, i = k := ⟨i.toNat, by omega⟩
  obtain ⟨j, rfl, rfl, rfl, hwf3⟩ := open_int Try.underlying5 (hval 3 5 v3 rfl rfl) h3
  have hw_j := wf_u8 hwf3
  obtain ⟨j, rfl⟩ : ∃ k : Nat, j = k := ⟨j.toNat, by omega⟩
  refine (manifestErrors_any f name i j W (by omega) (by omega)).mono ?_
  rintro e W' ⟨rfl, hb⟩
  refine ⟨_, rfl, _, _, _, [], (p0 ++ ([] ++ ([] ++ []))), [], hW', ?_, ?_, rfl, hb.frame _, fun h => by cases h⟩
  · exact trodAll_mk1 (shut_truth true)
  · exact trodAll_mk4 (Below.trod Try.laidOut (by kernel_rfl) (of_decide_eq_true (by kernel_rfl)) h0k hb hlt0) (Go.ChangeMaps.shut_string Try.underlying9 hw_name) (shut_int Try.underlying5 hwf2) (shut_int Try.underlying5 hwf3)

theorem manifestErrors_holds : Rows.ManifestErrorsSaid :=
  OpenClaim.holds_of_wide 4 Try.f4 rfl rfl rfl rfl rfl rfl rfl ⟨rfl, rfl, rfl, rfl, rfl⟩ rfl rfl rfl rfl rfl (by kernel_rfl) Try.func4 (by kernel_rfl)
    (of_decide_eq_true (by kernel_rfl)) (by unfold Func.isWrapper; first | (rw [if_pos (by decide +kernel)]; kernel_rfl) | (rw [if_neg (by decide +kernel)]; exact ⟨rfl, rfl⟩))
    (fun os started H enc _ => manifestErrors_lifted os started H enc)

#print axioms manifestErrors_holds
end Go.Proofs.Ytaeemeoffnhgfaa
