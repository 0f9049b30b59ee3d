/-
  rickyardlaw19.TabletStale answers true, whatever the client, its numbers and the cell; it does not panic, and its arguments read as they did. No conditions.
-/
import Derived.Test.YtiiogdgnccgehaaLawStale19
import Derived.Test.YtiiogdgnccgehaaRowKit19
namespace Go.Proofs.Ytiiogdgnccgehaa
open Go.ChangeShapes Go.WideShapes Go.ChangeAt Go.RowKit Go.Deep

theorem tabletStale_any (cl n m : Nat) (c : Cl) (w : World) (m1 : cl < 256 ^ 8) (m2 : n < 256 ^ 8) (m3 : m < 256 ^ 8) (hf : c.okA) :
    Calls Try.prog 9 #[.int .u64 cl, .int .u64 n, .int .u64 m, .agg c.vals.toArray] w fun e w' => e = .returned (.bool true) ∧ Below w.heap.size w w' := by
  show Calls Try.prog 9 #[.int .u64 cl, .int .u64 n, .int .u64 m, .agg #[.string c.row, .string c.col, .int .u64 c.ts, .int .u64 c.seq, .bool c.del, .string c.val]] w _
  by_cases h : okCell c ∧ may c = true
  · exact stale_any cl n m c w m1 m2 m3 hf.1 h.1 h.2
  · exact stale_wide cl n m c w h
set_option maxHeartbeats 800000 in
set_option maxRecDepth 100000 in
theorem tabletStale_lifted (os : Os) (started : os.Started) (H : Type) (enc : TypeId × Value → H) :
    ReturnsInHanded {} Try.checked os 9 .any (Rows.tabletStaleSpec.pre6 enc Try.prog Try.f9 Rows.tabletStaleRow.domain false) (Rows.tabletStaleSpec.post enc Try.prog Try.f9 false true false false) := by
  refine returnsInHanded_of_change (C := Try.checked) Try.own started (by kernel_rfl) Try.func9
    (ChangeSpec.witness6 (enc := enc) (C := Try.checked) false ⟨#[], #[.int .u64 0, .int .u64 0, .int .u64 0, .agg #[.string ⟨#[]⟩, .string ⟨#[]⟩, .int .u64 0, .int .u64 0, .bool false, .string ⟨#[]⟩]], []⟩ 8 (by kernel_rfl) (by kernel_rfl) (by kernel_rfl) (by kernel_rfl)) ?_
  intro W base args ds gs before hval0 hW hcnd _
  have hval : ∀ (j : Nat) t v, Try.f9.params[j]? = some t → args[j]? = some v → Value.okWide Try.prog W .any base t v := hval0
  have hW' := hW
  obtain ⟨p, q, hA0, hV, rfl, hfz, hnd⟩ := hW
  have hA : DataW.TrodAll enc Try.prog W 0 (fun _ => true) true Try.f9.params.toList args.toList ds p := hA0
  rw [Try.params9] at hA hval
  obtain ⟨v0, v1, v2, v3, d0, d1, d2, d3, p0, p1, p2, p3, rfl, rfl, rfl, h0, h1, h2, h3⟩ := trodAll_four hA
  obtain ⟨rfl, rfl⟩ := trodVars_none hV
  have hlt3 : ∀ x ∈ p3, x.block < W.heap.size := fun x hx => hW'.lt x (by simp [hx])
  obtain ⟨cl, rfl, rfl, rfl, hwf0⟩ := open_int Try.underlying22 (hval 0 22 v0 rfl rfl) h0
  have hw_cl := wf_u64 hwf0
  obtain ⟨cl, rfl⟩ : ∃ k : Nat, cl = k := ⟨cl.toNat, by omega⟩
  obtain ⟨n, rfl, rfl, rfl, hwf1⟩ := open_int Try.underlying22 (hval 1 22 v1 rfl rfl) h1
  have hw_n := wf_u64 hwf1
  obtain ⟨n, rfl⟩ : ∃ k : Nat, n = k := ⟨n.toNat, by omega⟩
  obtain ⟨m, rfl, rfl, rfl, hwf2⟩ := open_int Try.underlying22 (hval 2 22 v2 rfl rfl) h2
  have hw_m := wf_u64 hwf2
  obtain ⟨m, rfl⟩ : ∃ k : Nat, m = k := ⟨m.toNat, by omega⟩
  obtain ⟨cs3, rfl, _⟩ := okWide_struct Try.underlying75 (hval 3 75 v3 rfl rfl)
  have h3k := h3
  obtain ⟨fuel3, hf3⟩ := h3
  obtain ⟨c, e3, hw_c⟩ := open_cell hf3
  obtain rfl := agg_of e3
  refine (tabletStale_any cl n m c W (by omega) (by omega) (by omega) hw_c).mono ?_
  rintro e W' ⟨rfl, hb⟩
  refine ⟨_, rfl, _, _, _, [], ([] ++ ([] ++ ([] ++ p3))), [], hW', ?_, ?_, rfl, hb.frame _, fun h => by cases h⟩
  · exact trodAll_mk1 (shut_truth true)
  · exact trodAll_mk4 (shut_int Try.underlying22 hwf0) (shut_int Try.underlying22 hwf1) (shut_int Try.underlying22 hwf2) (Below.trod Try.laidOut (by kernel_rfl) (of_decide_eq_true (by kernel_rfl)) h3k hb hlt3)

theorem tabletStale_holds : Rows.TabletStaleSaid :=
  OpenClaim.holds_of_wide 9 Try.f9 rfl rfl rfl rfl rfl rfl rfl ⟨rfl, rfl, rfl, rfl, rfl⟩ rfl rfl rfl rfl rfl (by kernel_rfl) Try.func9 (by kernel_rfl)
    (of_decide_eq_true (by kernel_rfl)) (by unfold Func.isWrapper; first | (rw [if_pos (by decide +kernel)]; kernel_rfl) | (rw [if_neg (by decide +kernel)]; exact ⟨rfl, rfl⟩))
    (fun os started H enc _ => tabletStale_lifted os started H enc)

#print axioms tabletStale_holds
end Go.Proofs.Ytiiogdgnccgehaa
