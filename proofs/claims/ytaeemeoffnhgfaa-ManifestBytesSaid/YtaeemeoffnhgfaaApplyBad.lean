/-
  The walk of manifest.Apply, first part: an edit that may not be.
-/
import Derived.Test.YtaeemeoffnhgfaaApplyBox
namespace Go.Proofs.Ytaeemeoffnhgfaa
open Go.RowKit
attribute [local go_sem ↓] Go.wp_at_zero Go.wp_at_succ

theorem containsWrong (A : Option Addr) (c : Nat) (l : List Fi) (w : World) (hl : Rd w w.heap.size A (fis l)) (hlen : l.length ≤ 1000000) :
    Calls Try.prog 28 #[.slice A l.length c, .func (.func 29) #[] #[]] w fun e w' => e = .returned (.bool (l.any fun x => !may x)) ∧ Below w.heap.size w w' := by
  refine containsFile_any 29 #[] (fun x => !may x) w (fun args W => by kernel_rfl) (fun x W _ => wrong_any x W) A c l hl (by unfold maxLen; omega)

set_option maxRecDepth 10000 in
set_option maxHeartbeats 4000000 in
theorem apply_bad (A1 A2 A3 : Option Addr) (c1 c2 c3 n1 n3 : Nat) (add : List Fi) (nx fl nx' fl' : Int) (w : World) (h2 : Rd w w.heap.size A2 (fis add)) (hlen : add.length ≤ 1000000)
    (hbad : (add.any (fun x => !may x)) = true ∨ nx' < nx ∨ fl' < fl) :
    Calls Try.prog 12 #[stV A1 n1 c1 nx fl, edV A2 add.length c2 A3 n3 c3 nx' fl'] w fun e w' => e = .returned (.tuple #[stV none 0 0 0 0, .int .i64 1]) ∧ Below w.heap.size w w' := by
  have hc := fun W hb => containsWrong A2 c2 add W ((Rd.below h2 hb).more hb.size) hlen
  have hm := ApB.made w (stC A1 n1 c1 nx fl) (edC A2 add.length c2 A3 n3 c3 nx' fl')
  unfold stV edV
  unfold stC edC at hm ⊢
  obtain ⟨q, hq⟩ : ∃ q, (add.any fun x => !may x) = q := ⟨_, rfl⟩
  simp only [hq] at hc hbad
  have HC := Lib.hid hc
  have HM := Lib.hid hm
  clear h2 hm hq hc
  cases q with
  | true =>
    clear hbad
    go_enter Try.func12, Try.ntmps12
    go_wp2_with (first
      | (go_at_call 28; refine (HC.out _ HM.out.1).mono ?_; rintro e w1 ⟨rfl, hb1⟩; have HM1 := Lib.hid (ApB.below HM.out hb1 HM.out.2.1); obtain ⟨-, c21, c22⟩ := ApB.st HM1.out; obtain ⟨-, -, c32, c33⟩ := ApB.ed HM1.out)
      | (show wpList _ _ _ ({ dst := none, op := Op.store _ _ _, type := _, pos := _, after := _, guard := _ } :: _) _ _; refine wpList_store_mid rfl 30 (.tmp 4) (.tmp 32) rfl (w.heap.size + 1 + 1) 0 (stC none 0 0 0 0) rfl rfl HM1.out.there (by kernel_rfl) (stC_one _ _ _ _ _) ?_; refine HM1.out.putW none 0 0 0 0 ?_; intro w2 HB2 d0 d1 d2))
    (try simp only [Exit.inBlock, Exit.then])
    exact bodyPost_ret (app_results rfl _ _ _ none 0 0 0 0 _ rfl rfl d0 d1 d2) rfl ⟨rfl, HB2.out.1⟩
  | false =>
    by_cases hlt : nx' < nx
    · have e1 : decide (nx' < nx) = true := decide_eq_true hlt
      clear hbad
      go_enter Try.func12, Try.ntmps12
      go_wp2_with (first
        | (go_at_call 28; refine (HC.out _ HM.out.1).mono ?_; rintro e w1 ⟨rfl, hb1⟩; have HM1 := Lib.hid (ApB.below HM.out hb1 HM.out.2.1); obtain ⟨-, c21, c22⟩ := ApB.st HM1.out; obtain ⟨-, -, c32, c33⟩ := ApB.ed HM1.out)
        | (show wpList _ _ _ ({ dst := none, op := Op.store _ _ _, type := _, pos := _, after := _, guard := _ } :: _) _ _; refine wpList_store_mid rfl 30 (.tmp 4) (.tmp 32) rfl (w.heap.size + 1 + 1) 0 (stC none 0 0 0 0) rfl rfl HM1.out.there (by kernel_rfl) (stC_one _ _ _ _ _) ?_; refine HM1.out.putW none 0 0 0 0 ?_; intro w2 HB2 d0 d1 d2))
      (try simp only [Exit.inBlock, Exit.then])
      exact bodyPost_ret (app_results rfl _ _ _ none 0 0 0 0 _ rfl rfl d0 d1 d2) rfl ⟨rfl, HB2.out.1⟩
    · have hlt2 : fl' < fl := by
        rcases hbad with h | h | h
        · cases h
        · exact absurd h hlt
        · exact h
      have e1 : decide (nx' < nx) = false := decide_eq_false hlt
      have e2 : decide (fl' < fl) = true := decide_eq_true hlt2
      clear hbad
      go_enter Try.func12, Try.ntmps12
      go_wp2_with (first
        | (go_at_call 28; refine (HC.out _ HM.out.1).mono ?_; rintro e w1 ⟨rfl, hb1⟩; have HM1 := Lib.hid (ApB.below HM.out hb1 HM.out.2.1); obtain ⟨-, c21, c22⟩ := ApB.st HM1.out; obtain ⟨-, -, c32, c33⟩ := ApB.ed HM1.out)
        | (show wpList _ _ _ ({ dst := none, op := Op.store _ _ _, type := _, pos := _, after := _, guard := _ } :: _) _ _; refine wpList_store_mid rfl 30 (.tmp 4) (.tmp 32) rfl (w.heap.size + 1 + 1) 0 (stC none 0 0 0 0) rfl rfl HM1.out.there (by kernel_rfl) (stC_one _ _ _ _ _) ?_; refine HM1.out.putW none 0 0 0 0 ?_; intro w2 HB2 d0 d1 d2))
      (try simp only [Exit.inBlock, Exit.then])
      exact bodyPost_ret (app_results rfl _ _ _ none 0 0 0 0 _ rfl rfl d0 d1 d2) rfl ⟨rfl, HB2.out.1⟩
end Go.Proofs.Ytaeemeoffnhgfaa
