/-
  Ingests behind splits: what they do, plain; the calls that the law TabletEpochs makes. No conditions.
-/
import Derived.Test.YtiiogdgnccgehaaBordersPlain19
namespace Go.Proofs.Ytiiogdgnccgehaa
open Go.RowKit

def cutR (r : ByteArray) : ByteArray := r.extract 0 (min r.size 40)
theorem cutR_size (r : ByteArray) : (cutR r).size ≤ 255 := by
  unfold cutR
  rw [ByteArray.size_extract]
  omega
/-- behind k splits -/
structure EInv (s : Sta) (k : Nat) : Prop where
  ok : SOk s k
  ix : s.index = k
  jobs : s.jobs = []
theorem EInv.zero : EInv emptyS 0 := ⟨sok_zero, rfl, rfl⟩
theorem EInv.next {s : Sta} {k : Nat} (h : EInv s k) {r : ByteArray} (hr : r.size ≤ 255) : EInv (applyS s (tR r)).1 (k + 1) := by
  have hok := sok_next h.ok (tR r)
  rw [applyS_row hr] at hok ⊢
  have h1 := h.ix
  refine ⟨hok, ?_, ?_⟩
  · unfold splitS bad
    split
    · simp only; omega
    · split <;> simp only <;> omega
  · unfold splitS bad
    split
    · exact h.jobs
    · split <;> exact h.jobs
def cmE (job sum ep : Nat) (files : List Nat) : Cmd := ⟨3, 0, 0, [], ⟨#[]⟩, job, sum, ep, files⟩
def tE (job sum ep : Nat) (files : List Nat) : ByteArray := (encC (cmE job sum ep files)).1
structure OkE (job sum ep : Nat) (files : List Nat) : Prop where
  job : job < 256 ^ 8
  sum : sum < 256 ^ 4
  ep : ep < 8
  len : files.length ≤ 100
  fl : ∀ x ∈ files, x < 256 ^ 4
section
variable {job sum ep : Nat} {files : List Nat}
theorem OkE.fits (h : OkE job sum ep files) : fitsC (cmE job sum ep files) := ⟨by show 0 < _; omega, by show 0 < _; omega, (by intro x hx; cases hx), h.job, h.sum, by have := h.ep; show ep < _; omega, h.fl⟩
theorem OkE.enc (h : OkE job sum ep files) : encC (cmE job sum ep files) = (tE job sum ep files, 0) := by
  have h1 : encC (cmE job sum ep files) = (encB (cmE job sum ep files), 0) := by
    have hp : plainC (cmE job sum ep files) = true := rfl
    have hw : wideC (cmE job sum ep files) = false := by
      show (decide (100 < 0) || decide (255 < files.length) || decide (255 < 0)) = false
      rw [decide_eq_false (show ¬ 255 < files.length by have := h.len; omega)]
      rfl
    have hm : mayC (cmE job sum ep files) = true := rfl
    unfold encC
    rw [if_pos hp, hw, hm]
    rfl
  have h2 : tE job sum ep files = encB (cmE job sum ep files) := by unfold tE; rw [h1]
  rw [h1, h2]
theorem OkE.size (h : OkE job sum ep files) : (tE job sum ep files).size ≤ 100000 := by have := encB_size h.enc; omega
theorem OkE.apply (h : OkE job sum ep files) (s : Sta) : applyS s (tE job sum ep files) = ingestS { s with index := s.index + 1 } (cmE job sum ep files) := by
  rw [applyS_enc h.fits h.enc]
  rfl
theorem OkE.call (h : OkE job sum ep files) {A : Option Addr} {c : Nat} {W : World} (hr : Rd W W.heap.size A (u32s files)) (hc : files.length ≤ c) (hm : c ≤ maxLen) :
    Calls Try.prog 12 #[.agg #[.int .i64 3, .int .u64 0, .int .u64 0, .slice none 0 0, .string ⟨#[]⟩, .int .u64 job, .int .u32 sum, .int .u64 ep, .slice A files.length c]] W fun e w' => e = .returned (.tuple #[.string (tE job sum ep files), .int .i64 0]) ∧ Below W.heap.size W w' := by
  have h1 := encode_any (cmE job sum ep files) none 0 A c W ⟨Rd.nil, hr, Nat.zero_le _, hc, Nat.zero_le _, hm⟩
  rw [h.enc] at h1
  exact h1
theorem ingest_none {s : Sta} (h : s.jobs = []) (hf : files = []) : ingestS s (cmE job sum ep files) = (s, ⟨1, false, [], []⟩) := by
  unfold ingestS
  rw [h]
  simp [findS, cmE, hf, bad]
theorem ingest_epoch {s : Sta} (h : s.jobs = []) (hf : files ≠ []) (he : ep ≠ s.epoch) : ingestS s (cmE job sum ep files) = (s, ⟨190, false, [], []⟩) := by
  unfold ingestS
  rw [h]
  simp [findS, cmE, hf, he, bad]
theorem ingest_good {s : Sta} (h : s.jobs = []) (hf : files ≠ []) (he : ep = s.epoch) : ingestS s (cmE job sum ep files) = ({ s with jobs := [⟨job, sum, s.index⟩] }, ⟨0, false, [], files⟩) := by
  unfold ingestS
  rw [h]
  simp [findS, cmE, hf, he]
theorem find_this (q : Nat) : findS [⟨job, sum, q⟩] job = (⟨job, sum, q⟩, true) := by
  unfold findS
  simp [hasId]
theorem ingest_other {s : Sta} {z q : Nat} (h : s.jobs = [⟨job, sum, q⟩]) (hz : sum ≠ z) : ingestS s (cmE job z ep files) = (s, ⟨191, true, [], []⟩) := by
  unfold ingestS
  rw [h]
  rw [show (cmE job z ep files).job = job from rfl, find_this]
  exact (if_neg (fun hh => hz hh.2)).trans (if_pos rfl)
theorem ingest_again {s : Sta} {q : Nat} (h : s.jobs = [⟨job, sum, q⟩]) : ingestS s (cmE job sum ep files) = (s, ⟨0, true, [], []⟩) := by
  unfold ingestS
  rw [h]
  rw [show (cmE job sum ep files).job = job from rfl, find_this]
  exact if_pos ⟨rfl, rfl⟩
end
theorem xor_one (n : Nat) (h : n < 256 ^ 4) : n ^^^ 1 < 256 ^ 4 ∧ n ≠ n ^^^ 1 := by
  constructor
  · exact Nat.xor_lt_two_pow (n := 32) (by omega) (by omega)
  · intro e
    have h1 := congrArg (fun x => x.testBit 0) e
    simp at h1
    omega
/-- what the one ingest does behind k splits -/
theorem end_none {s : Sta} {k : Nat} {job sum ep : Nat} {files : List Nat} (h : EInv s k) (ho : OkE job sum ep files) (hf : files = []) : applyS s (tE job sum ep files) = ({ s with index := s.index + 1 }, ⟨1, false, [], []⟩) := by
  rw [ho.apply, ingest_none (s := { s with index := s.index + 1 }) h.jobs hf]
theorem end_epoch {s : Sta} {k : Nat} {job sum ep : Nat} {files : List Nat} (h : EInv s k) (ho : OkE job sum ep files) (hf : files ≠ []) (he : ep ≠ s.epoch) : applyS s (tE job sum ep files) = ({ s with index := s.index + 1 }, ⟨190, false, [], []⟩) := by
  rw [ho.apply, ingest_epoch (s := { s with index := s.index + 1 }) h.jobs hf he]
theorem end_good {s : Sta} {k : Nat} {job sum ep : Nat} {files : List Nat} (h : EInv s k) (ho : OkE job sum ep files) (hf : files ≠ []) (he : ep = s.epoch) : applyS s (tE job sum ep files) = ({ s with index := s.index + 1, jobs := [⟨job, sum, s.index + 1⟩] }, ⟨0, false, [], files⟩) := by
  rw [ho.apply, ingest_good (s := { s with index := s.index + 1 }) h.jobs hf he]
theorem end_other {s : Sta} {job sum z ep q : Nat} {files : List Nat} (h : s.jobs = [⟨job, sum, q⟩]) (ho : OkE job z ep files) (hz : sum ≠ z) : applyS s (tE job z ep files) = ({ s with index := s.index + 1 }, ⟨191, true, [], []⟩) := by
  rw [ho.apply, ingest_other (s := { s with index := s.index + 1 }) h hz]
theorem end_again {s : Sta} {job sum ep q : Nat} {files : List Nat} (h : s.jobs = [⟨job, sum, q⟩]) (ho : OkE job sum ep files) : applyS s (tE job sum ep files) = ({ s with index := s.index + 1 }, ⟨0, true, [], []⟩) := by
  rw [ho.apply, ingest_again (s := { s with index := s.index + 1 }) h]
theorem findS_nil (id : Nat) : findS [] id = (⟨0, 0, 0⟩, false) := rfl
end Go.Proofs.Ytiiogdgnccgehaa
