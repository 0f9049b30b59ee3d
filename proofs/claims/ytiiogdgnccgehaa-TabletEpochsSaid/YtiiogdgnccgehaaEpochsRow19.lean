/-
  rickyardlaw19.TabletEpochs answers true, whatever the rows, the job, its sum, epoch and files; it does not panic, and its arguments read as they did. No conditions.
-/
import Derived.Test.YtiiogdgnccgehaaLawEpochs19
import Derived.Test.YtiiogdgnccgehaaRowKit19
namespace Go.Proofs.Ytiiogdgnccgehaa
open Go.ChangeShapes Go.WideShapes Go.ChangeAt Go.RowKit Go.Deep

theorem tabletEpochs_any (A B : Option Addr) (c d : Nat) (rows : List ByteArray) (job sum ep : Nat) (files : List Nat) (w : World) (hl : Rd w w.heap.size A (txs rows)) (hf : Rd w w.heap.size B (u32s files) ∧ ∀ x ∈ files, x < 256 ^ 4) (hd : files.length ≤ d) (hdm : d ≤ maxLen) (h1 : job < 256 ^ 8) (h2 : sum < 256 ^ 4) (h3 : ep ≤ 255) :
    Calls Try.prog 7 #[.slice A rows.length c, .int .u64 job, .int .u32 sum, .int .u8 ep, .slice B files.length d] w fun e w' => e = .returned (.bool true) ∧ Below w.heap.size w w' := by
  by_cases h : rows.length ≤ 20
  · by_cases h' : files.length ≤ 100
    · exact epochs_any A B c d rows job sum ep files w hl hf.1 hd hdm h h3 ⟨h1, h2, Nat.mod_lt _ (by omega), h', hf.2⟩
    · exact epochs_wide A B c d _ _ job sum ep w (.inr (by omega))
  · exact epochs_wide A B c d _ _ job sum ep w (.inl (by omega))
set_option maxHeartbeats 800000 in
set_option maxRecDepth 100000 in
theorem tabletEpochs_lifted (os : Os) (started : os.Started) (H : Type) (enc : TypeId × Value → H) :
    ReturnsInHanded {} Try.checked os 7 .any (Rows.tabletEpochsSpec.pre6 enc Try.prog Try.f7 Rows.tabletEpochsRow.domain false) (Rows.tabletEpochsSpec.post enc Try.prog Try.f7 false true false false) := by
  refine returnsInHanded_of_change (C := Try.checked) Try.own started (by kernel_rfl) Try.func7
    (ChangeSpec.witness6 (enc := enc) (C := Try.checked) false ⟨#[], #[.slice none 0 0, .int .u64 0, .int .u32 0, .int .u8 0, .slice none 0 0], []⟩ 8 (by kernel_rfl) (by kernel_rfl) (by kernel_rfl) (by kernel_rfl)) ?_
  intro W base args ds gs before hval0 hW hcnd _
  have hval : ∀ (j : Nat) t v, Try.f7.params[j]? = some t → args[j]? = some v → Value.okWide Try.prog W .any base t v := hval0
  have hW' := hW
  obtain ⟨p, q, hA0, hV, rfl, hfz, hnd⟩ := hW
  have hA : DataW.TrodAll enc Try.prog W 0 (fun _ => true) true Try.f7.params.toList args.toList ds p := hA0
  rw [Try.params7] at hA hval
  obtain ⟨v0, v1, v2, v3, v4, d0, d1, d2, d3, d4, p0, p1, p2, p3, p4, rfl, rfl, rfl, h0, h1, h2, h3, h4⟩ := trodAll_five hA
  obtain ⟨rfl, rfl⟩ := trodVars_none hV
  have hlt0 : ∀ x ∈ p0, x.block < W.heap.size := fun x hx => hW'.lt x (by simp [hx])
  have hlt4 : ∀ x ∈ p4, x.block < W.heap.size := fun x hx => hW'.lt x (by simp [hx])
  obtain ⟨a0, len0, cap0, rfl⟩ := okWide_slice Try.underlying43 (hval 0 43 v0 rfl rfl)
  have h0k := h0
  obtain ⟨fuel0, hf0⟩ := h0
  obtain ⟨A_rows, c_rows, rows, e0, hc_rows, hm0, hrd_rows⟩ := open_texts hf0
  simp [Value.cells] at e0
  obtain ⟨rfl, rfl, rfl⟩ := e0
  obtain ⟨job, rfl, rfl, rfl, hwf1⟩ := open_int Try.underlying22 (hval 1 22 v1 rfl rfl) h1
  have hw_job := wf_u64 hwf1
  obtain ⟨job, rfl⟩ : ∃ k : Nat, job = k := ⟨job.toNat, by omega⟩
  obtain ⟨sum, rfl, rfl, rfl, hwf2⟩ := open_int Try.underlying24 (hval 2 24 v2 rfl rfl) h2
  have hw_sum := wf_u32 hwf2
  obtain ⟨sum, rfl⟩ : ∃ k : Nat, sum = k := ⟨sum.toNat, by omega⟩
  obtain ⟨ep, rfl, rfl, rfl, hwf3⟩ := open_int Try.underlying5 (hval 3 5 v3 rfl rfl) h3
  have hw_ep := wf_u8 hwf3
  obtain ⟨ep, rfl⟩ : ∃ k : Nat, ep = k := ⟨ep.toNat, by omega⟩
  obtain ⟨a4, len4, cap4, rfl⟩ := okWide_slice Try.underlying25 (hval 4 25 v4 rfl rfl)
  have h4k := h4
  obtain ⟨fuel4, hf4⟩ := h4
  obtain ⟨A_files, c_files, files, e4, hc_files, hm4, hrd_files⟩ := open_u32s hf4
  simp [Value.cells] at e4
  obtain ⟨rfl, rfl, rfl⟩ := e4
  refine (tabletEpochs_any _ _ _ _ rows job sum ep files W hrd_rows.1 hrd_files hc_files hm4 (by omega) (by omega) (by omega)).mono ?_
  rintro e W' ⟨rfl, hb⟩
  refine ⟨_, rfl, _, _, _, [], (p0 ++ ([] ++ ([] ++ ([] ++ p4)))), [], hW', ?_, ?_, rfl, hb.frame _, fun h => by cases h⟩
  · exact trodAll_mk1 (shut_truth true)
  · exact trodAll_mk5 (Below.trod Try.laidOut (by kernel_rfl) (of_decide_eq_true (by kernel_rfl)) h0k hb hlt0) (shut_int Try.underlying22 hwf1) (shut_int Try.underlying24 hwf2) (shut_int Try.underlying5 hwf3) (Below.trod Try.laidOut (by kernel_rfl) (of_decide_eq_true (by kernel_rfl)) h4k hb hlt4)

theorem tabletEpochs_holds : Rows.TabletEpochsSaid :=
  OpenClaim.holds_of_wide 7 Try.f7 rfl rfl rfl rfl rfl rfl rfl ⟨rfl, rfl, rfl, rfl, rfl⟩ rfl rfl rfl rfl rfl (by kernel_rfl) Try.func7 (by kernel_rfl)
    (of_decide_eq_true (by kernel_rfl)) (by unfold Func.isWrapper; first | (rw [if_pos (by decide +kernel)]; kernel_rfl) | (rw [if_neg (by decide +kernel)]; exact ⟨rfl, rfl⟩))
    (fun os started H enc _ => tabletEpochs_lifted os started H enc)

#print axioms tabletEpochs_holds
end Go.Proofs.Ytiiogdgnccgehaa
