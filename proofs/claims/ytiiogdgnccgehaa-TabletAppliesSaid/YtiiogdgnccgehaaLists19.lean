/-
  Rows of my own: cells, numbers, jobs, clients; append. No conditions.
-/
import Derived.Test.YtiiogdgnccgehaaJE
namespace Go.Proofs.Ytiiogdgnccgehaa
open Go.RowKit

structure Jb where
  id : Nat
  sum : Nat
  seq : Nat
  deriving DecidableEq
structure Kl where
  id : Nat
  num : Nat
  e : Int
  deriving DecidableEq
def Jb.vs (j : Jb) : List Value := [.int .u64 j.id, .int .u32 j.sum, .int .u64 j.seq]
def Kl.vs (j : Kl) : List Value := [.int .u64 j.id, .int .u64 j.num, .int .i64 j.e]
def jbs (l : List Jb) : List Value := l.flatMap Jb.vs
def kls (l : List Kl) : List Value := l.flatMap Kl.vs
theorem jbs_len (l : List Jb) : (jbs l).length = l.length * 3 := by
  induction l with
  | nil => rfl
  | cons c l ih => simp [jbs, Jb.vs] at *; omega
theorem kls_len (l : List Kl) : (kls l).length = l.length * 3 := by
  induction l with
  | nil => rfl
  | cons c l ih => simp [kls, Kl.vs] at *; omega
theorem vals_len6 (l : List Cl) : (vals l).length = l.length * 6 := by rw [length_vals]; omega
theorem u32s_len1 (l : List Nat) : (u32s l).length = l.length * 1 := by rw [u32s_len]; omega
theorem jbs_one (l : List Jb) : ∀ u ∈ jbs l, u.oneCell' = true := by
  intro u hu
  simp only [jbs, List.mem_flatMap, Jb.vs] at hu
  obtain ⟨c, _, hu⟩ := hu
  simp only [List.mem_cons, List.not_mem_nil, or_false] at hu
  rcases hu with rfl | rfl | rfl <;> rfl
theorem kls_one (l : List Kl) : ∀ u ∈ kls l, u.oneCell' = true := by
  intro u hu
  simp only [kls, List.mem_flatMap, Kl.vs] at hu
  obtain ⟨c, _, hu⟩ := hu
  simp only [List.mem_cons, List.not_mem_nil, or_false] at hu
  rcases hu with rfl | rfl | rfl <;> rfl
theorem u32s_one (l : List Nat) : ∀ u ∈ u32s l, u.oneCell' = true := by
  intro u hu
  obtain ⟨s, _, rfl⟩ := List.mem_map.1 hu
  rfl
theorem jbs_app (a b : List Jb) : jbs a ++ jbs b = jbs (a ++ b) := by simp [jbs]
theorem kls_app (a b : List Kl) : kls a ++ kls b = kls (a ++ b) := by simp [kls]
theorem u32s_app (a b : List Nat) : u32s a ++ u32s b = u32s (a ++ b) := by simp [u32s]
def zeroCl : Value := .agg #[.string ⟨#[]⟩, .string ⟨#[]⟩, .int .u64 0, .int .u64 0, .bool false, .string ⟨#[]⟩]
def zeroJb : Value := .agg #[.int .u64 0, .int .u32 0, .int .u64 0]
def zeroKl : Value := .agg #[.int .u64 0, .int .u64 0, .int .i64 0]
theorem clInfo : (Try.prog.info? 75).map (fun i => (i.zero, i.size, i.bytes)) = some (some zeroCl, 6, 72) := by kernel_rfl
theorem jbInfo : (Try.prog.info? 64).map (fun i => (i.zero, i.size, i.bytes)) = some (some zeroJb, 3, 24) := by kernel_rfl
theorem klInfo : (Try.prog.info? 107).map (fun i => (i.zero, i.size, i.bytes)) = some (some zeroKl, 3, 24) := by kernel_rfl
theorem u32Info : (Try.prog.info? 24).map (fun i => (i.zero, i.size, i.bytes)) = some (some (.int .u32 0), 1, 4) := by kernel_rfl
def OwnC (w : World) (B : Nat) (A : Option Addr) (n c : Nat) (l : List Cl) : Prop := Own w B 75 6 A n c (vals l)
theorem OwnC.len {w : World} {B n c : Nat} {A : Option Addr} {l : List Cl} (h : OwnC w B A n c l) : l.length = n := by
  have := h.1
  rw [vals_len6] at this
  omega
theorem OwnC.rd {w : World} {B n c : Nat} {A : Option Addr} {l : List Cl} (h : OwnC w B A n c l) : Rd w w.heap.size A (vals l) := Own.rd h (by omega)
theorem OwnC.below {w w' : World} {B n c : Nat} {A : Option Addr} {l : List Cl} (h : OwnC w B A n c l) (hb : Below w.heap.size w w') : OwnC w' B A n c l := Own.below h hb
theorem OwnC.lower {w : World} {B B' n c : Nat} {A : Option Addr} {l : List Cl} (h : OwnC w B A n c l) (hB : B' ≤ B) : OwnC w B' A n c l := Own.lower h hB
theorem OwnC.le {w : World} {B n c : Nat} {A : Option Addr} {l : List Cl} (h : OwnC w B A n c l) : n ≤ c := by
  rcases h.2 with ⟨_, h2⟩ | ⟨g, cap, cur, hv, hb, hg, h3, h4, h5, h6⟩
  · omega
  · injection hv with _ _ hc
    omega
theorem OwnC.nil {w : World} {B : Nat} : OwnC w B none 0 0 [] := Own.nil
theorem cells_app {w : World} {ops : Array Oper} {rest : List Oper} {o : Oper} {a : Act} {Q : Exit → Act → World → Prop} (hw : Region.wanted o (yielded ops a.tmps) = true) (s x : Operand)
    (ho : o.op = .call { callee := .builtin .append, args := #[s, x], argTypes := #[23, 23] })
    (B : Nat) (A : Option Addr) (n c N : Nat) (L add : List Cl) (hs : a.eval s = .slice A n c) (hown : OwnC w B A n c L) (A2 : Option Addr) (m c2 : Nat) (hx : a.eval x = .slice A2 m c2) (hr : Rd w w.heap.size A2 (vals add)) (hm : add.length = m)
    (hN : n + m = N) (hl : N ≤ 1000000) (hB : B ≤ w.heap.size)
    (h : ∀ A' c' w', Hid (OwnC w' B A' N c' (L ++ add)) → Hid (w.grownBy w' (blk A)) → wpList Try.prog ops Q rest (a.put o.dst (.slice A' N c')) w') : wpList Try.prog ops Q (o :: rest) a w := by
  obtain ⟨i0, hi0, hz0, hz1, hz2⟩ := info_parts clInfo
  subst hN
  refine wpList_app_g hw s x 23 ho B 75 i0 zeroCl 6 72 Try.underlying23 hi0 hz0 hz1 hz2 rfl (by decide) A n c (vals L) hs hown w.heap.size A2 m c2 (vals add) hx hr (by rw [vals_len6, hm]) (vals_one add) (by unfold maxLen; omega) (by omega) hB ?_
  intro A' c' w' h1 h2 _
  exact h A' c' w' (Lib.hid (by unfold OwnC; rw [← vals_append]; exact h1)) (Lib.hid h2)
theorem OwnC.cap {w : World} {B n c : Nat} {A : Option Addr} {l : List Cl} (h : OwnC w B A n c l) : c ≤ maxLen := by
  rcases h.2 with ⟨hv, h2⟩ | ⟨g, cap, cur, hv, hb, hg, h3, h4, h5, h6⟩
  · injection hv with _ _ hc
    unfold maxLen
    omega
  · injection hv with _ _ hc
    omega
def OwnU (w : World) (B : Nat) (A : Option Addr) (n c : Nat) (l : List Nat) : Prop := Own w B 24 1 A n c (u32s l)
theorem OwnU.len {w : World} {B n c : Nat} {A : Option Addr} {l : List Nat} (h : OwnU w B A n c l) : l.length = n := by
  have := h.1
  rw [u32s_len1] at this
  omega
theorem OwnU.rd {w : World} {B n c : Nat} {A : Option Addr} {l : List Nat} (h : OwnU w B A n c l) : Rd w w.heap.size A (u32s l) := Own.rd h (by omega)
theorem OwnU.below {w w' : World} {B n c : Nat} {A : Option Addr} {l : List Nat} (h : OwnU w B A n c l) (hb : Below w.heap.size w w') : OwnU w' B A n c l := Own.below h hb
theorem OwnU.lower {w : World} {B B' n c : Nat} {A : Option Addr} {l : List Nat} (h : OwnU w B A n c l) (hB : B' ≤ B) : OwnU w B' A n c l := Own.lower h hB
theorem OwnU.le {w : World} {B n c : Nat} {A : Option Addr} {l : List Nat} (h : OwnU w B A n c l) : n ≤ c := by
  rcases h.2 with ⟨_, h2⟩ | ⟨g, cap, cur, hv, hb, hg, h3, h4, h5, h6⟩
  · omega
  · injection hv with _ _ hc
    omega
theorem OwnU.nil {w : World} {B : Nat} : OwnU w B none 0 0 [] := Own.nil
theorem nums_app {w : World} {ops : Array Oper} {rest : List Oper} {o : Oper} {a : Act} {Q : Exit → Act → World → Prop} (hw : Region.wanted o (yielded ops a.tmps) = true) (s x : Operand)
    (ho : o.op = .call { callee := .builtin .append, args := #[s, x], argTypes := #[25, 25] })
    (B : Nat) (A : Option Addr) (n c N : Nat) (L add : List Nat) (hs : a.eval s = .slice A n c) (hown : OwnU w B A n c L) (A2 : Option Addr) (m c2 : Nat) (hx : a.eval x = .slice A2 m c2) (hr : Rd w w.heap.size A2 (u32s add)) (hm : add.length = m)
    (hN : n + m = N) (hl : N ≤ 1000000) (hB : B ≤ w.heap.size)
    (h : ∀ A' c' w', Hid (OwnU w' B A' N c' (L ++ add)) → Hid (w.grownBy w' (blk A)) → wpList Try.prog ops Q rest (a.put o.dst (.slice A' N c')) w') : wpList Try.prog ops Q (o :: rest) a w := by
  obtain ⟨i0, hi0, hz0, hz1, hz2⟩ := info_parts u32Info
  subst hN
  refine wpList_app_g hw s x 25 ho B 24 i0 (.int .u32 0) 1 4 Try.underlying25 hi0 hz0 hz1 hz2 rfl (by decide) A n c (u32s L) hs hown w.heap.size A2 m c2 (u32s add) hx hr (by rw [u32s_len1, hm]) (u32s_one add) (by unfold maxLen; omega) (by omega) hB ?_
  intro A' c' w' h1 h2 _
  exact h A' c' w' (Lib.hid (by unfold OwnU; rw [← u32s_app]; exact h1)) (Lib.hid h2)
theorem OwnU.cap {w : World} {B n c : Nat} {A : Option Addr} {l : List Nat} (h : OwnU w B A n c l) : c ≤ maxLen := by
  rcases h.2 with ⟨hv, h2⟩ | ⟨g, cap, cur, hv, hb, hg, h3, h4, h5, h6⟩
  · injection hv with _ _ hc
    unfold maxLen
    omega
  · injection hv with _ _ hc
    omega
def OwnJ (w : World) (B : Nat) (A : Option Addr) (n c : Nat) (l : List Jb) : Prop := Own w B 64 3 A n c (jbs l)
theorem OwnJ.len {w : World} {B n c : Nat} {A : Option Addr} {l : List Jb} (h : OwnJ w B A n c l) : l.length = n := by
  have := h.1
  rw [jbs_len] at this
  omega
theorem OwnJ.rd {w : World} {B n c : Nat} {A : Option Addr} {l : List Jb} (h : OwnJ w B A n c l) : Rd w w.heap.size A (jbs l) := Own.rd h (by omega)
theorem OwnJ.below {w w' : World} {B n c : Nat} {A : Option Addr} {l : List Jb} (h : OwnJ w B A n c l) (hb : Below w.heap.size w w') : OwnJ w' B A n c l := Own.below h hb
theorem OwnJ.lower {w : World} {B B' n c : Nat} {A : Option Addr} {l : List Jb} (h : OwnJ w B A n c l) (hB : B' ≤ B) : OwnJ w B' A n c l := Own.lower h hB
theorem OwnJ.le {w : World} {B n c : Nat} {A : Option Addr} {l : List Jb} (h : OwnJ w B A n c l) : n ≤ c := by
  rcases h.2 with ⟨_, h2⟩ | ⟨g, cap, cur, hv, hb, hg, h3, h4, h5, h6⟩
  · omega
  · injection hv with _ _ hc
    omega
theorem OwnJ.nil {w : World} {B : Nat} : OwnJ w B none 0 0 [] := Own.nil
theorem jobs_app {w : World} {ops : Array Oper} {rest : List Oper} {o : Oper} {a : Act} {Q : Exit → Act → World → Prop} (hw : Region.wanted o (yielded ops a.tmps) = true) (s x : Operand)
    (ho : o.op = .call { callee := .builtin .append, args := #[s, x], argTypes := #[44, 44] })
    (B : Nat) (A : Option Addr) (n c N : Nat) (L add : List Jb) (hs : a.eval s = .slice A n c) (hown : OwnJ w B A n c L) (A2 : Option Addr) (m c2 : Nat) (hx : a.eval x = .slice A2 m c2) (hr : Rd w w.heap.size A2 (jbs add)) (hm : add.length = m)
    (hN : n + m = N) (hl : N ≤ 1000000) (hB : B ≤ w.heap.size)
    (h : ∀ A' c' w', Hid (OwnJ w' B A' N c' (L ++ add)) → Hid (w.grownBy w' (blk A)) → wpList Try.prog ops Q rest (a.put o.dst (.slice A' N c')) w') : wpList Try.prog ops Q (o :: rest) a w := by
  obtain ⟨i0, hi0, hz0, hz1, hz2⟩ := info_parts jbInfo
  subst hN
  refine wpList_app_g hw s x 44 ho B 64 i0 zeroJb 3 24 Try.underlying44 hi0 hz0 hz1 hz2 rfl (by decide) A n c (jbs L) hs hown w.heap.size A2 m c2 (jbs add) hx hr (by rw [jbs_len, hm]) (jbs_one add) (by unfold maxLen; omega) (by omega) hB ?_
  intro A' c' w' h1 h2 _
  exact h A' c' w' (Lib.hid (by unfold OwnJ; rw [← jbs_app]; exact h1)) (Lib.hid h2)
theorem OwnJ.cap {w : World} {B n c : Nat} {A : Option Addr} {l : List Jb} (h : OwnJ w B A n c l) : c ≤ maxLen := by
  rcases h.2 with ⟨hv, h2⟩ | ⟨g, cap, cur, hv, hb, hg, h3, h4, h5, h6⟩
  · injection hv with _ _ hc
    unfold maxLen
    omega
  · injection hv with _ _ hc
    omega
def OwnK (w : World) (B : Nat) (A : Option Addr) (n c : Nat) (l : List Kl) : Prop := Own w B 107 3 A n c (kls l)
theorem OwnK.len {w : World} {B n c : Nat} {A : Option Addr} {l : List Kl} (h : OwnK w B A n c l) : l.length = n := by
  have := h.1
  rw [kls_len] at this
  omega
theorem OwnK.rd {w : World} {B n c : Nat} {A : Option Addr} {l : List Kl} (h : OwnK w B A n c l) : Rd w w.heap.size A (kls l) := Own.rd h (by omega)
theorem OwnK.below {w w' : World} {B n c : Nat} {A : Option Addr} {l : List Kl} (h : OwnK w B A n c l) (hb : Below w.heap.size w w') : OwnK w' B A n c l := Own.below h hb
theorem OwnK.lower {w : World} {B B' n c : Nat} {A : Option Addr} {l : List Kl} (h : OwnK w B A n c l) (hB : B' ≤ B) : OwnK w B' A n c l := Own.lower h hB
theorem OwnK.le {w : World} {B n c : Nat} {A : Option Addr} {l : List Kl} (h : OwnK w B A n c l) : n ≤ c := by
  rcases h.2 with ⟨_, h2⟩ | ⟨g, cap, cur, hv, hb, hg, h3, h4, h5, h6⟩
  · omega
  · injection hv with _ _ hc
    omega
theorem OwnK.nil {w : World} {B : Nat} : OwnK w B none 0 0 [] := Own.nil
theorem clients_app {w : World} {ops : Array Oper} {rest : List Oper} {o : Oper} {a : Act} {Q : Exit → Act → World → Prop} (hw : Region.wanted o (yielded ops a.tmps) = true) (s x : Operand)
    (ho : o.op = .call { callee := .builtin .append, args := #[s, x], argTypes := #[45, 45] })
    (B : Nat) (A : Option Addr) (n c N : Nat) (L add : List Kl) (hs : a.eval s = .slice A n c) (hown : OwnK w B A n c L) (A2 : Option Addr) (m c2 : Nat) (hx : a.eval x = .slice A2 m c2) (hr : Rd w w.heap.size A2 (kls add)) (hm : add.length = m)
    (hN : n + m = N) (hl : N ≤ 1000000) (hB : B ≤ w.heap.size)
    (h : ∀ A' c' w', Hid (OwnK w' B A' N c' (L ++ add)) → Hid (w.grownBy w' (blk A)) → wpList Try.prog ops Q rest (a.put o.dst (.slice A' N c')) w') : wpList Try.prog ops Q (o :: rest) a w := by
  obtain ⟨i0, hi0, hz0, hz1, hz2⟩ := info_parts klInfo
  subst hN
  refine wpList_app_g hw s x 45 ho B 107 i0 zeroKl 3 24 Try.underlying45 hi0 hz0 hz1 hz2 rfl (by decide) A n c (kls L) hs hown w.heap.size A2 m c2 (kls add) hx hr (by rw [kls_len, hm]) (kls_one add) (by unfold maxLen; omega) (by omega) hB ?_
  intro A' c' w' h1 h2 _
  exact h A' c' w' (Lib.hid (by unfold OwnK; rw [← kls_app]; exact h1)) (Lib.hid h2)
theorem OwnK.cap {w : World} {B n c : Nat} {A : Option Addr} {l : List Kl} (h : OwnK w B A n c l) : c ≤ maxLen := by
  rcases h.2 with ⟨hv, h2⟩ | ⟨g, cap, cur, hv, hb, hg, h3, h4, h5, h6⟩
  · injection hv with _ _ hc
    unfold maxLen
    omega
  · injection hv with _ _ hc
    omega
end Go.Proofs.Ytiiogdgnccgehaa
