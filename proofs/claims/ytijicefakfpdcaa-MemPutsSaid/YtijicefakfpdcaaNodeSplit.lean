/-
  The walk of the second turn that keeps a tree of cells flat.
-/
import Derived.Test.YtijicefakfpdcaaNode
namespace Go.Proofs.Ytijicefakfpdcaa
open Go.RowKit
attribute [local go_sem ↓] Go.wp_at_zero Go.wp_at_succ

set_option maxHeartbeats 1000000 in
theorem split_any (b : Nat) (lv : Int) (l : Tr) (c : Cl) (r : Tr) (w : World) (hIn : (Tr.node b lv l c r).In w) (hd : (Tr.node b lv l c r).blocks.Nodup) :
    Calls Try.prog 33 #[.pointer (some ⟨b, 0, none⟩)] w fun e w' => ∃ t', e = .returned (.pointer t'.ptr) ∧ Turned (.node b lv l c r) t' w w' := by
  have hN := hIn.1
  obtain ⟨n0, n1, n2, n3, n4, n5, n6, n7, n8⟩ := hN.at_
  cases r with
  | leaf =>
    simp only [Tr.ptr] at n7
    clear hN
    have HT := Lib.hid (Turned.refl (w := w) hIn)
    clear hIn
    go_enter Try.func33, Try.ntmps33
    go_wp2
    go_quiet (fail)
    go_wp2
    go_ret
    exact ⟨_, rfl, HT.out _ (by simp)⟩
  | node b2 lv2 m x z =>
    simp only [Tr.ptr] at n7
    have hN2 := hIn.2.2.1
    obtain ⟨m0, m1, m2, m3, m4, m5, m6, m7, m8⟩ := hN2.at_
    cases z with
    | leaf =>
      simp only [Tr.ptr] at m7
      clear hN hN2
      have HT := Lib.hid (Turned.refl (w := w) hIn)
      clear hIn
      go_enter Try.func33, Try.ntmps33
      go_wp2
      go_quiet (fail)
      go_wp2
      go_ret
      exact ⟨_, rfl, HT.out _ (by simp)⟩
    | node b3 lv3 z1 y z2 =>
      simp only [Tr.ptr] at m7
      have hN3 := hIn.2.2.2.2.1
      obtain ⟨z0, z1', z2', z3, z4, z5, z6, z7, z8⟩ := hN3.at_
      by_cases he : lv3 = lv
      · subst he
        have hb := (List.nodup_cons.1 hd).1
        have hd2 := List.nodup_append.1 (List.nodup_cons.1 hd).2
        have hb2 := (List.nodup_cons.1 hd2.2.1).1
        have hne : b ≠ b2 := fun e => hb (by simp [e, Tr.blocks])
        have hlb : b ∉ l.blocks := fun e => hb (by simp [e])
        have hmb : b ∉ m.blocks := fun e => hb (by simp [e, Tr.blocks])
        have hzb : b ∉ (Tr.node b3 lv3 z1 y z2).blocks := fun e => hb (by simp only [Tr.blocks, List.mem_append, List.mem_cons] at e ⊢; grind)
        have hlb2 : b2 ∉ l.blocks := fun e => hd2.2.2 b2 e b2 (by simp [Tr.blocks]) rfl
        have hmb2 : b2 ∉ m.blocks := fun e => hb2 (by simp [e])
        have hzb2 : b2 ∉ (Tr.node b3 lv3 z1 y z2).blocks := fun e => hb2 (by simp only [Tr.blocks, List.mem_append, List.mem_cons] at e ⊢; grind)
        obtain ⟨_, hl, _, hm, hz⟩ := hIn
        have f0 := fun n => (hN.drewN n).free 7
        have g1 := fun n => ((hN2.drewN n).far (p := ⟨b, 7, none⟩) (Ne.symm hne) (.pointer m.ptr))
        have g2 := fun n => ((g1 n).low (some ⟨b, 0, none⟩))
        have f1 := fun n => (g1 n).free 6
        have f2 := fun n => (g1 n).at_.2.2.2.2.2.2.1
        have f3 := fun n => (g2 n).free 8
        have f4 := fun n => (g2 n).at_.2.2.2.2.2.2.2.2
        have HT : ∀ n, Turned (.node b lv3 l c (.node b2 lv2 m x (.node b3 lv3 z1 y z2))) (.node b2 (wrap64 (lv2 + 1)) (.node b lv3 l c m) x (.node b3 lv3 z1 y z2)) w
            ((((w.drewN n).setCell ⟨b, 7, none⟩ (.pointer m.ptr)).setCell ⟨b2, 6, none⟩ (.pointer (some ⟨b, 0, none⟩))).setCell ⟨b2, 8, none⟩ (.int .i64 (wrap64 (lv2 + 1)))) := fun n => by
          refine ⟨⟨(g2 n).lev _, ⟨(((hN.drewN n).high m.ptr).far (p := ⟨b2, 6, none⟩) hne _).far (p := ⟨b2, 8, none⟩) hne _, (((hl.drewN n).far hlb _).far hlb2 _).far hlb2 _, (((hm.drewN n).far hmb _).far hmb2 _).far hmb2 _⟩, (((hz.drewN n).far hzb _).far hzb2 _).far hzb2 _⟩, ?_, ?_, ?_, by simp⟩
          · simp [Tr.cells]
          · generalize hzz : Tr.node b3 lv3 z1 y z2 = z
            simp only [Tr.blocks, List.cons_append, List.append_assoc]
            refine (List.Perm.trans (List.Perm.swap b b2 _) (List.Perm.cons b ?_))
            exact List.perm_middle.symm
          · have h1 := ((((Mv.refl (own := (Tr.node b lv3 l c (.node b2 lv2 m x (.node b3 lv3 z1 y z2))).blocks) (W := w) (Tr.In.lt ⟨hN, hl, hN2, hm, hz⟩)).drewN n).setCell (p := ⟨b, 7, none⟩) (by simp [Tr.blocks]) (.pointer m.ptr)).setCell (p := ⟨b2, 6, none⟩) (by simp [Tr.blocks]) (.pointer (some ⟨b, 0, none⟩))).setCell (p := ⟨b2, 8, none⟩) (by simp [Tr.blocks]) (.int .i64 (wrap64 (lv2 + 1)))
            exact h1.perm fun k => by simp only [Tr.blocks, List.mem_cons, List.mem_append]; grind
        have HH := Lib.hid HT
        clear HT g1 g2 hN hN2 hN3 hl hm hz hne hb hd hd2 hb2
        go_enter Try.func33, Try.ntmps33
        go_wp2
        go_quiet (fail)
        go_wp2
        go_ret
        exact ⟨_, rfl, HH.out _⟩
      · clear hN hN2 hN3
        have HT := Lib.hid (Turned.refl (w := w) hIn)
        clear hIn
        go_enter Try.func33, Try.ntmps33
        go_wp2
        go_quiet (fail)
        go_wp2
        go_ret
        exact ⟨_, rfl, HT.out _ (by simp)⟩
end Go.Proofs.Ytijicefakfpdcaa
