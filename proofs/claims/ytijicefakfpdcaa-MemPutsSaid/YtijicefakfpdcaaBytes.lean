/-
  Bytes of my own: a string's bytes appended, the bytes as a string; the walk of cell.little.
-/
import Derived.Test.YtijicefakfpdcaaRegion
import Derived.Test.YtijicefakfpdcaaCmpOrd
import Derived.Test.YtijicefakfpdcaaOwn
import Derived.Lib.AppendStr
import Derived.Lib.AppendZeros
import Derived.Laws.BytesString
namespace Go.Proofs.Ytijicefakfpdcaa
open Go.RowKit
attribute [local go_sem ↓] Go.wp_at_zero Go.wp_at_succ

theorem byteInfo : (Try.prog.info? 5).map (fun i => (i.zero, i.size, i.bytes)) = some (some (.int .u8 0), 1, 1) := by kernel_rfl
/-- a row of my own, of bytes -/
def Byt (w : World) (base : Nat) (A : Option Addr) (n c : Nat) (ns : List Int) : Prop := Own w base 5 1 A n c (ns.map (Value.int .u8))
theorem bytes_one (ns : List Int) : ∀ u ∈ ns.map (Value.int .u8), u.oneCell' = true := by
  intro u hu
  obtain ⟨n, _, rfl⟩ := List.mem_map.1 hu
  rfl
theorem strCells_ns (s : ByteArray) : Lib.strCells s = (s.data.toList.map fun b => (b.toNat : Int)).map (Value.int .u8) := by simp [Lib.strCells]
theorem Byt.len {w : World} {base n c : Nat} {A : Option Addr} {ns : List Int} (h : Byt w base A n c ns) : ns.length = n := by simpa using Own.length h
theorem foldl_push_size : ∀ (ns : List Int) (b : ByteArray), (ns.foldl (fun r n => r.push (UInt8.ofNat n.toNat)) b).size = b.size + ns.length
  | [], b => rfl
  | n :: ns, b => by
    rw [List.foldl_cons, foldl_push_size ns]
    simp [ByteArray.size_push]
    omega

section
variable (w : World)
theorem wpList_app_str {ops : Array Oper} {rest : List Oper} {o : Oper} {a : Act} {Q : Exit → Act → World → Prop} (hgd : o.guard = none) (sl x : Operand)
    (ho : o.op = .call { callee := .builtin .append, args := #[sl, x], argTypes := #[57, 9] })
    (base : Nat) (A : Option Addr) (n c : Nat) (ns : List Int) (hs : a.eval sl = .slice A n c) (hown : Byt w base A n c ns) (s : ByteArray) (hx : a.eval x = .string s)
    (hn : n + s.size ≤ 100000) (hbase : base ≤ w.heap.size)
    (h : ∀ A' c' ms w', ms.length = s.size → Byt w' base A' (n + s.size) c' (ns ++ ms) → w.grownBy w' (blk A) → wpList Try.prog ops Q rest (a.put o.dst (.slice A' (n + s.size) c')) w') : wpList Try.prog ops Q (o :: rest) a w := by
  obtain ⟨i0, hi0, hz0, hz1, hz2⟩ := info_parts byteInfo
  refine Lib.wpList_append_own_string w hgd sl x 57 9 ho base 5 i0 Try.underlying57 Try.underlying9 hi0 hz0 hz1 hz2 (.slice A n c) n _ hs hown s hx (by unfold maxLen; omega) (by omega) hbase ?_
  intro v' w' h1 h2 _
  rw [ownBlock_slice] at h2
  obtain ⟨A', c', rfl⟩ : ∃ (A' : Option Addr) (c' : Nat), v' = .slice A' (n + s.size) c' := by
    rcases h1.2 with ⟨h2, h3⟩ | ⟨g, cap, cur, hv, _⟩
    · exact ⟨none, 0, by rw [h2, h3]⟩
    · exact ⟨_, _, hv⟩
  refine h A' c' (s.data.toList.map fun b => (b.toNat : Int)) w' (by rw [List.length_map, Array.length_toList]; rfl) ?_ h2
  unfold Byt
  rw [List.map_append, ← strCells_ns]
  exact h1
end

theorem run_str {w : World} {base n c : Nat} {A : Option Addr} {ns : List Int} (h : Byt w base A n c ns) (hn : 0 < n) :
    ∃ s : ByteArray, s.size = n ∧ (convert 57 9 (.slice A n c)).run Try.prog w = .ok (.string s) w := by
  obtain ⟨g, rfl, hg1, hg2, hc⟩ := Own.at_ h hn
  have hl := h.len
  refine ⟨ns.foldl (fun r n => r.push (UInt8.ofNat n.toNat)) ByteArray.empty, by rw [foldl_push_size, hl]; simp, ?_⟩
  · rw [run_convert_bytes_string w 57 9 5 _ _ _ Try.underlying57 Try.underlying5 Try.underlying9]
    refine run_bytesToString w _ n c ns ?_
    have := run_loadCells_list (P := Try.prog) (w := w) (⟨g, 0, none⟩ : Addr) (ns.map (Value.int .u8)) (fun j v hv => by
      have hj := (List.getElem?_eq_some_iff.1 hv).1
      have h1 := (hc j hj).1
      rw [add_at, Nat.zero_add, h1, ← hv]
      exact (List.getElem?_eq_getElem hj).symm)
    rwa [List.length_map, hl] at this

set_option maxHeartbeats 1000000 in
theorem little_any (base : Nat) (A : Option Addr) (n c : Nat) (ns : List Int) (N : Nat) (w : World) (h : Byt w base A n c ns) (hn : n ≤ 1000) (hbase : base ≤ w.heap.size) :
    Calls Try.prog 29 #[.slice A n c, .int .u64 N] w fun e w' => ∃ (A' : Option Addr) (c' : Nat) (ms : List Int), e = .returned (.slice A' (n + 8) c') ∧ Byt w' base A' (n + 8) c' ms ∧ Below base w w' := by
  obtain ⟨i0, hi0, hz0, hz1, hz2⟩ := info_parts byteInfo
  go_enter Try.func29, Try.ntmps29
  go_wp2
  go_loopw [0, 5, 6] (fun s _ i wr => ∃ (A1 : Option Addr) (c1 k : Nat) (ms : List Int), s = .slice A1 (n + k) c1 ∧ i = .int .i64 k ∧ k ≤ 8 ∧ Byt wr base A1 (n + k) c1 ms ∧ Below base w wr ∧ base ≤ wr.heap.size) (fun _ _ i _ => 8 - (intOf i).toNat)
  case atStart => exact ⟨A, c, 0, ns, rfl, rfl, by omega, h, Below.refl _ _, hbase⟩
  case round =>
    obtain ⟨A1, c1, k, ms, rfl, rfl, hk, ho, hB, hbs⟩ := hrel
    by_cases hlt : k < 8
    · have hd : decide ((k : Int) < 8) = true := decide_eq_true (by omega)
      have hw1 : IntKind.i64.wrap ((k : Int) + 1) = ((k + 1 : Nat) : Int) := by rw [IntWalk.i64_in _ (by omega)]; omega
      have hw8 : IntKind.i64.wrap (8 * (k : Int)) = 8 * (k : Int) := by rw [IntWalk.i64_in _ (by omega)]
      have HO := Lib.hid ho
      have HB := Lib.hid hB
      clear h ho hB
      go_wp2_with (at_builtin; refine wpList_app _ rfl _ _ _ rfl base 5 i0 (.int .u8 0) 1 1 Try.underlying57 hi0 hz0 hz1 hz2 rfl (by decide) A1 (n + k) c1 _ rfl (Own.alloc HO.out _) (wr.heap.size + 1) (some ⟨wr.heap.size, 0, none⟩) 1 1 [.int .u8 ((N : Int) / 2 ^ (8 * k) % 256)] rfl (Rd.new1 _ _ _) rfl (by simp [Value.oneCell']) (by unfold maxLen; omega) (by omega) (by rw [World.size_alloc]; omega) ?_; intro A2 c2 w2 ho2 hg2 _)
      refine ⟨⟨A2, c2, k + 1, ms ++ [(N : Int) / 2 ^ (8 * k) % 256], by first | rfl | go_num, by first | rfl | go_num, by omega, by unfold Byt; rw [List.map_append]; exact ho2, ?_, by have := hg2.size; rw [World.size_alloc] at this; omega⟩, by simp [intOf]; omega⟩
      exact Own.grow (Own.alloc HO.out _) (HB.out.alloc hbs _) (by rw [World.size_alloc]; omega) (Nat.le_refl _) hg2
    · have hd : decide ((k : Int) < 8) = false := decide_eq_false (by omega)
      have hk8 : k = 8 := by omega
      subst hk8
      have HO := Lib.hid ho
      have HB := Lib.hid hB
      clear h ho hB
      go_wp2
      go_ret
      exact ⟨A1, c1, ms, rfl, HO.out, HB.out⟩
end Go.Proofs.Ytijicefakfpdcaa
