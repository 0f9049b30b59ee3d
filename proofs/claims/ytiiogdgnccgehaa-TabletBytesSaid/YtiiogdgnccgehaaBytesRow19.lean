/-
  rickyardlaw19.TabletBytes answers true, whatever the command and the text; it does not panic, and its arguments read as they did. No conditions.
-/
import Derived.Test.YtiiogdgnccgehaaLawBytes19
import Derived.Test.YtiiogdgnccgehaaRowKit19
namespace Go.Proofs.Ytiiogdgnccgehaa
open Go.ChangeShapes Go.WideShapes Go.ChangeAt Go.RowKit Go.Deep

theorem tabletBytes_any (x : CA) (t : ByteArray) (w : World) (h : x.ok w) :
    Calls Try.prog 3 #[.agg x.vs.toArray, .string t] w fun e w' => e = .returned (.bool true) ∧ Below w.heap.size w w' := by
  cases hb : bndC x.c with
  | false => exact bytes_bad x.c x.A x.k x.D x.m t w h.1 hb
  | true =>
    by_cases ht : 600 < t.size
    · exact bytes_long x.c x.A x.k x.D x.m t w h.1 hb ht
    · exact bytes_any x.c x.A x.k x.D x.m t w h.1 h.2.1 hb (by omega)
set_option maxHeartbeats 800000 in
set_option maxRecDepth 100000 in
theorem tabletBytes_lifted (os : Os) (started : os.Started) (H : Type) (enc : TypeId × Value → H) :
    ReturnsInHanded {} Try.checked os 3 .any (Rows.tabletBytesSpec.pre6 enc Try.prog Try.f3 Rows.tabletBytesRow.domain false) (Rows.tabletBytesSpec.post enc Try.prog Try.f3 false true false false) := by
  refine returnsInHanded_of_change (C := Try.checked) Try.own started (by kernel_rfl) Try.func3
    (ChangeSpec.witness6 (enc := enc) (C := Try.checked) false ⟨#[], #[.agg #[.int .i64 0, .int .u64 0, .int .u64 0, .slice none 0 0, .string ⟨#[]⟩, .int .u64 0, .int .u32 0, .int .u64 0, .slice none 0 0], .string ⟨#[]⟩], []⟩ 8 (by kernel_rfl) (by kernel_rfl) (by kernel_rfl) (by kernel_rfl)) ?_
  intro W base args ds gs before hval0 hW hcnd _
  have hval : ∀ (j : Nat) t v, Try.f3.params[j]? = some t → args[j]? = some v → Value.okWide Try.prog W .any base t v := hval0
  have hW' := hW
  obtain ⟨p, q, hA0, hV, rfl, hfz, hnd⟩ := hW
  have hA : DataW.TrodAll enc Try.prog W 0 (fun _ => true) true Try.f3.params.toList args.toList ds p := hA0
  rw [Try.params3] at hA hval
  obtain ⟨v0, v1, d0, d1, p0, p1, rfl, rfl, rfl, h0, h1⟩ := trodAll_two hA
  obtain ⟨rfl, rfl⟩ := trodVars_none hV
  have hlt0 : ∀ x ∈ p0, x.block < W.heap.size := fun x hx => hW'.lt x (by simp [hx])
  obtain ⟨cs0, rfl, _⟩ := okWide_struct Try.underlying27 (hval 0 27 v0 rfl rfl)
  have h0k := h0
  obtain ⟨fuel0, hf0⟩ := h0
  obtain ⟨c, e0, hw_c⟩ := open_cmd hf0
  obtain rfl := agg_of e0
  obtain ⟨s, rfl, rfl, rfl, hw_s⟩ := Go.ChangeMaps.open_string Try.underlying9 (hval 1 9 v1 rfl rfl) h1
  refine (tabletBytes_any c s W hw_c).mono ?_
  rintro e W' ⟨rfl, hb⟩
  refine ⟨_, rfl, _, _, _, [], (p0 ++ []), [], hW', ?_, ?_, rfl, hb.frame _, fun h => by cases h⟩
  · exact trodAll_mk1 (shut_truth true)
  · exact trodAll_mk2 (Below.trod Try.laidOut (by kernel_rfl) (of_decide_eq_true (by kernel_rfl)) h0k hb hlt0) (Go.ChangeMaps.shut_string Try.underlying9 hw_s)

theorem tabletBytes_holds : Rows.TabletBytesSaid :=
  OpenClaim.holds_of_wide 3 Try.f3 rfl rfl rfl rfl rfl rfl rfl ⟨rfl, rfl, rfl, rfl, rfl⟩ rfl rfl rfl rfl rfl (by kernel_rfl) Try.func3 (by kernel_rfl)
    (of_decide_eq_true (by kernel_rfl)) (by unfold Func.isWrapper; first | (rw [if_pos (by decide +kernel)]; kernel_rfl) | (rw [if_neg (by decide +kernel)]; exact ⟨rfl, rfl⟩))
    (fun os started H enc _ => tabletBytes_lifted os started H enc)

#print axioms tabletBytes_holds
end Go.Proofs.Ytiiogdgnccgehaa
