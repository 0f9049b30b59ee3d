/-
  The order of files; what the program tells of their types. Plain, no walk.
-/
import Derived.Test.YtaeemeoffnhgfaaInsertFile
namespace Go.Proofs.Ytaeemeoffnhgfaa
open Go.RowKit

theorem Fi.cmp_eq (x y : Fi) : x.cmp y = if numI x.level y.level = 0 then (if txt x.low y.low = 0 then txt x.name y.name else txt x.low y.low) else numI x.level y.level := by
  unfold Fi.cmp
  rw [first_cons, first_cons, first_cons, first_nil]
  by_cases h : numI x.level y.level = 0
  · rw [if_pos h, if_pos h]
    by_cases k : txt x.low y.low = 0
    · rw [if_pos k, if_pos k]
      split
      · rename_i h; exact h.symm
      · rfl
    · rw [if_neg k, if_neg k]
  · rw [if_neg h, if_neg h]
theorem fi_cmp : IsCmp Fi.cmp := by
  have h := (numI_cmp.comap Fi.level).lex ((txt_cmp.comap Fi.low).lex (txt_cmp.comap Fi.name))
  have e : (fun a b : Fi => if numI a.level b.level = 0 then (if txt a.low b.low = 0 then txt a.name b.name else txt a.low b.low) else numI a.level b.level) = Fi.cmp := by
    funext x y; rw [Fi.cmp_eq]
  rw [← e]
  exact h
theorem fi_weak : Weak Fi.lt := fi_cmp.weak

def zeroFile : Value := .agg #[.int .i64 0, .string ⟨#[]⟩, .string ⟨#[]⟩, .string ⟨#[]⟩, .int .i64 0]
theorem fileInfo : (Try.prog.info? 23).map (fun i => (i.zero, i.size, i.bytes)) = some (some zeroFile, 5, 64) := by kernel_rfl
theorem refFileInfo : (Try.prog.info? 76).map (fun i => (i.zero, i.size, i.bytes)) = some (some zeroFile, 5, 64) := by kernel_rfl
theorem filesInfo : (Try.prog.info? 25).map (fun i => (i.zero, i.size, i.bytes)) = some (some (.slice none 0 0), 1, 24) := by kernel_rfl
end Go.Proofs.Ytaeemeoffnhgfaa
