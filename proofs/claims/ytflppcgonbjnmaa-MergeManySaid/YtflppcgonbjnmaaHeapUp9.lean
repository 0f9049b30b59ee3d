/-
  The walks of the heap's up and down, through the interface. No conditions.
-/
import Derived.Test.YtflppcgonbjnmaaHeap9
namespace Go.Proofs.Ytflppcgonbjnmaa
open Go.RowKit
attribute [local go_sem ↓] Go.wp_at_zero Go.wp_at_succ

theorem hdepth : Try.prog.types.size + Made.depth = 234 := by kernel_rfl
theorem mLen0 (Hb : Nat) (w : World) : (method (Try.prog.types.size + Made.depth) 70 (.pointer (some ⟨Hb, 0, none⟩)) "Len").run Try.prog w = (do let r ← loadVar 72 ⟨Hb, 0, none⟩; pure ((33 : FuncId), r) : Sem (FuncId × Value)).run Try.prog w := by kernel_rfl
theorem mLen (Hb : Nat) (v : Value) (w : World) (h : w.cell? ⟨Hb, 0, none⟩ = some v) : (method 234 70 (.pointer (some ⟨Hb, 0, none⟩)) "Len").run Try.prog w = .ok (33, v) w := by
  have e := mLen0 Hb w
  rw [hdepth] at e
  rw [e]
  go_simp
theorem mLess0 (Hb : Nat) (w : World) : (method (Try.prog.types.size + Made.depth) 70 (.pointer (some ⟨Hb, 0, none⟩)) "Less").run Try.prog w = (do let r ← loadVar 72 ⟨Hb, 0, none⟩; pure ((87 : FuncId), r) : Sem (FuncId × Value)).run Try.prog w := by kernel_rfl
theorem mLess (Hb : Nat) (v : Value) (w : World) (h : w.cell? ⟨Hb, 0, none⟩ = some v) : (method 234 70 (.pointer (some ⟨Hb, 0, none⟩)) "Less").run Try.prog w = .ok (87, v) w := by
  have e := mLess0 Hb w
  rw [hdepth] at e
  rw [e]
  go_simp
theorem mSwap0 (Hb : Nat) (w : World) : (method (Try.prog.types.size + Made.depth) 70 (.pointer (some ⟨Hb, 0, none⟩)) "Swap").run Try.prog w = (do let r ← loadVar 72 ⟨Hb, 0, none⟩; pure ((90 : FuncId), r) : Sem (FuncId × Value)).run Try.prog w := by kernel_rfl
theorem mSwap (Hb : Nat) (v : Value) (w : World) (h : w.cell? ⟨Hb, 0, none⟩ = some v) : (method 234 70 (.pointer (some ⟨Hb, 0, none⟩)) "Swap").run Try.prog w = .ok (90, v) w := by
  have e := mSwap0 Hb w
  rw [hdepth] at e
  rw [e]
  go_simp

/-- the heap in memory: its variable, its row, its sources -/
structure HSt (w : World) (B Hb g n c : Nat) (l : List Qs) : Prop where
  box : Box w Hb 72 (.slice (some ⟨g, 0, none⟩) n c)
  arr : Arr Qs.vals 2 w g 78 (c * 2) l
  len : l.length = n
  ins : ∀ s ∈ l, s.In w B
  nq : ∀ s ∈ l, s.q ≠ g
  nh : Hb ≠ g
  gb : B ≤ g
  cp : n ≤ c
  cm : c ≤ maxLen
  hb : B ≤ Hb
theorem HSt.below {w w' : World} {B Hb g n c : Nat} {l : List Qs} (h : HSt w B Hb g n c l) (hb : Below w.heap.size w w') : HSt w' B Hb g n c l :=
  ⟨h.box.below hb h.box.lt, h.arr.below hb h.arr.lt, h.len, fun s hs => (h.ins s hs).below hb, h.nq, h.nh, h.gb, h.cp, h.cm, h.hb⟩
theorem HSt.swap {w w' : World} {B Hb g n c : Nat} {l m : List Qs} (h : HSt w B Hb g n c l) (ha : Arr Qs.vals 2 w' g 78 (c * 2) m) (hg : w.grownBy w' (some g)) (hp : m.Perm l) : HSt w' B Hb g n c m :=
  ⟨h.box.grown hg (fun e => by injection e with e; exact h.nh e), ha, hp.length_eq.trans h.len, fun s hs => (h.ins s (hp.mem_iff.1 hs)).grown hg (h.nq s (hp.mem_iff.1 hs)) h.gb, fun s hs => h.nq s (hp.mem_iff.1 hs), h.nh, h.gb, h.cp, h.cm, h.hb⟩
theorem HSt.rd {w : World} {B Hb g n c : Nat} {l : List Qs} (h : HSt w B Hb g n c l) : Rd w w.heap.size (some ⟨g, 0, none⟩) (qvs l) := Own.rd (Arr.own Qs.vals_len (by omega) h.arr (Nat.zero_le _) (by rw [h.len]; exact h.cp) h.cm) (by omega)
set_option maxRecDepth 20000 in
set_option maxHeartbeats 4000000 in
theorem up_any (B Hb g n c j : Nat) (l : List Qs) (w : World) (h : HSt w B Hb g n c l) (hj : j < n) (hmx : n ≤ 1000000) :
    Calls Try.prog 48 #[.iface 70 (.pointer (some ⟨Hb, 0, none⟩)), .int .i64 j] w fun e w' => e = .returned (.tuple #[]) ∧ HSt w' B Hb g n c (upL ltQ l j) ∧ w.grownBy w' (some g) := by
  have HH := Lib.hid h
  have mL := mLess Hb
  have mS := mSwap Hb
  clear h
  go_enter Try.func48, Try.ntmps48
  go_wp2
  go_loopw [1] (fun v1 wr => ∃ (k : Nat) (m : List Qs), v1 = .int .i64 (k : Int) ∧ k < n ∧ Hid (HSt wr B Hb g n c m) ∧ Hid (upL ltQ m k = upL ltQ l j) ∧ Hid (w.grownBy wr (some g))) (fun v1 _ => (intOf v1).toNat)
  case atStart => exact ⟨j, l, rfl, hj, HH, Lib.hid rfl, Lib.hid (grownBy_refl _ _)⟩
  case round =>
    clear HH
    obtain ⟨k, m, rfl, hk, HM, HU, HG⟩ := hrel
    rename World => wr
    cases k with
    | zero =>
      have hu := HU.out
      rw [upL, dif_pos rfl] at hu
      have HU2 := Lib.hid hu
      clear hu
      go_wp2
      go_end0
      exact ⟨rfl, by rw [← HU2.out]; exact HM.out, HG.out⟩
    | succ k =>
      have hk1 : ((k + 1 : Nat) : Int) - 1 = (k : Int) := by omega
      have hne : (((k / 2 : Nat) : Int) == ((k + 1 : Nat) : Int)) = false := by
        rw [beq_eq_false_iff_ne]
        omega
      obtain ⟨p, hp⟩ : ∃ p, k / 2 = p := ⟨_, rfl⟩
      have c0 := HM.out.box.cell
      have hkm : k + 1 < m.length := by rw [HM.out.len]; exact hk
      have hpm : p < m.length := by omega
      have HLS := Lib.hid (less_any B (some ⟨g, 0, none⟩) n c (k + 1) p m wr HM.out.rd HM.out.len hkm hpm HM.out.ins hmx)
      have hup : upL ltQ m (k + 1) = if ltQ m[k + 1] m[p] = true then upL ltQ (swp m p (k + 1)) p else m := by
        rw [upL, dif_neg (by omega)]
        simp only [Nat.add_sub_cancel, hp, List.getElem?_eq_getElem hkm, List.getElem?_eq_getElem hpm]
      have hqk : IntKind.i64.wrap ((k : Int) / 2) = (p : Int) := by rw [IntWalk.i64_in _ (by omega)]; omega
      have hdv : (k : Int) / 2 = (p : Int) := by omega
      have hpk : ((p : Int) == ((k + 1 : Nat) : Int)) = false := by rw [beq_eq_false_iff_ne]; omega
      clear hp hne
      cases hlt : ltQ m[k + 1] m[p] with
      | false =>
        rw [hlt, if_neg (by simp)] at hup
        have hu := HU.out
        rw [hup] at hu
        have HU2 := Lib.hid hu
        clear hup hu
        go_wp2_with (go_at_call 87; refine HLS.out.mono ?_; rintro e w1 ⟨rfl, hb1⟩; rw [hlt]; have HB1 := Lib.hid hb1; clear hb1)
        go_end0
        exact ⟨rfl, by rw [← HU2.out]; exact HM.out.below HB1.out, grownBy_trans HG.out (grownBy_below HB1.out _)⟩
      | true =>
        rw [hlt, if_pos rfl] at hup
        have hu := HU.out
        rw [hup] at hu
        have HU2 := Lib.hid hu
        clear hup hu
        go_wp2_with (first
          | (go_at_call 90; have hq := HM1.out; refine (swap_any g (c * 2) n c p (k + 1) m _ hq.arr hq.len hpm hkm hmx).mono ?_; rintro e w2 ⟨rfl, ha2, hg2⟩; have HM2 := Lib.hid (hq.swap ha2 hg2 (swp_perm _ _ _)); have HG2 := Lib.hid (grownBy_trans HG1.out hg2); clear ha2 hg2 hq)
          | (go_at_call 87; refine HLS.out.mono ?_; rintro e w1 ⟨rfl, hb1⟩; rw [hlt]; have HM1 := Lib.hid (HM.out.below hb1); have HG1 := Lib.hid (grownBy_trans HG.out (grownBy_below hb1 _)); clear hb1; have c1 := HM1.out.box.cell))
        exact ⟨⟨p, _, rfl, by omega, HM2, HU2, HG2⟩, by simp only [intOf]; omega⟩
end Go.Proofs.Ytflppcgonbjnmaa
