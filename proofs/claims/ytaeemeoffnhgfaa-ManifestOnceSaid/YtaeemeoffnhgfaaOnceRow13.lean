/-
  rickyardlaw13.ManifestOnce answers true, whatever the edits and the row; it does not panic, and its arguments read as they did. No conditions.
-/
import Derived.Test.YtaeemeoffnhgfaaOpenEd
import Derived.Test.YtaeemeoffnhgfaaLawOnce
namespace Go.Proofs.Ytaeemeoffnhgfaa
open Go.ChangeShapes Go.WideShapes Go.ChangeAt Go.RowKit

theorem manifestOnce_any (A0 : Option Addr) (cap : Nat) (L : List Ed) (row : ByteArray) (w : World) (h : Rd w w.heap.size A0 (eds L) ∧ ∀ e ∈ L, e.In w) :
    Calls Try.prog 6 #[.slice A0 L.length cap, .string row] w fun e w' => e = .returned (.bool true) ∧ Below w.heap.size w w' := by
  by_cases h1 : 10 < L.length ∨ 100 < row.size
  · exact once_wide A0 cap L.length row w h1
  · exact once_any A0 cap L.length L row w h.1 h.2 rfl (by omega) (by omega)

set_option maxHeartbeats 800000 in
set_option maxRecDepth 100000 in
theorem manifestOnce_lifted (os : Os) (started : os.Started) (H : Type) (enc : TypeId × Value → H) :
    ReturnsInHanded {} Try.checked os 6 .any (Rows.manifestOnceSpec.pre6 enc Try.prog Try.f6 Rows.manifestOnceRow.domain false) (Rows.manifestOnceSpec.post enc Try.prog Try.f6 false true false false) := by
  refine returnsInHanded_of_change (C := Try.checked) Try.own started (by kernel_rfl) Try.func6
    (ChangeSpec.witness6 (enc := enc) (C := Try.checked) false ⟨#[], #[.slice none 0 0, .string ⟨#[]⟩], []⟩ 8 (by kernel_rfl) (by kernel_rfl) (by kernel_rfl) (by kernel_rfl)) ?_
  intro W base args ds gs before hval0 hW hcnd _
  have hval : ∀ (j : Nat) t v, Try.f6.params[j]? = some t → args[j]? = some v → Value.okWide Try.prog W .any base t v := hval0
  have hW' := hW
  obtain ⟨p, q, hA0, hV, rfl, hfz, hnd⟩ := hW
  have hA : DataW.TrodAll enc Try.prog W 0 (fun _ => true) true Try.f6.params.toList args.toList ds p := hA0
  rw [Try.params6] at hA hval
  obtain ⟨v0, v1, d0, d1, p0, p1, rfl, rfl, rfl, h0, h1⟩ := trodAll_two hA
  obtain ⟨rfl, rfl⟩ := trodVars_none hV
  have hlt0 : ∀ x ∈ p0, x.block < W.heap.size := fun x hx => hW'.lt x (by simp [hx])
  obtain ⟨a0, len0, cap0, rfl⟩ := okWide_slice Try.underlying42 (hval 0 42 v0 rfl rfl)
  have h0k := h0
  obtain ⟨fuel0, hf0⟩ := h0
  obtain ⟨A_l, c_l, l, e0, hc_l, hm0, hrd_l⟩ := open_edits hf0
  simp [Value.cells] at e0
  obtain ⟨rfl, rfl, rfl⟩ := e0
  obtain ⟨row, rfl, rfl, rfl, hw_row⟩ := Go.ChangeMaps.open_string Try.underlying9 (hval 1 9 v1 rfl rfl) h1
  refine (manifestOnce_any _ _ l row W hrd_l).mono ?_
  rintro e W' ⟨rfl, hb⟩
  refine ⟨_, rfl, _, _, _, [], (p0 ++ []), [], hW', ?_, ?_, rfl, hb.frame _, fun h => by cases h⟩
  · exact trodAll_mk1 (shut_truth true)
  · exact trodAll_mk2 (Below.trod Try.laidOut (by kernel_rfl) (of_decide_eq_true (by kernel_rfl)) h0k hb hlt0) (Go.ChangeMaps.shut_string Try.underlying9 hw_row)

theorem manifestOnce_holds : Rows.ManifestOnceSaid :=
  OpenClaim.holds_of_wide 6 Try.f6 rfl rfl rfl rfl rfl rfl rfl ⟨rfl, rfl, rfl, rfl, rfl⟩ rfl rfl rfl rfl rfl (by kernel_rfl) Try.func6 (by kernel_rfl)
    (of_decide_eq_true (by kernel_rfl)) (by unfold Func.isWrapper; first | (rw [if_pos (by decide +kernel)]; kernel_rfl) | (rw [if_neg (by decide +kernel)]; exact ⟨rfl, rfl⟩))
    (fun os started H enc _ => manifestOnce_lifted os started H enc)

#print axioms manifestOnce_holds
end Go.Proofs.Ytaeemeoffnhgfaa
