/-
  The walk of the reference's Encode. No conditions.
-/
import Derived.Test.YtaeemeoffnhgfaaByB13
import Derived.Deep.DeepCutAuto
import Derived.Deep.CutBlock
namespace Go.Proofs.Ytaeemeoffnhgfaa
open Go.RowKit
attribute [local go_sem ↓] Go.wp_at_zero Go.wp_at_succ

theorem Bys.keep {w w' : World} {g : Nat} {ns : List Int} (h : Bys w g ns) (hb : Below w.heap.size w w') : Bys w' g ns := (hb.block g (Array.getElem?_eq_some_iff.1 h).1).trans h
theorem nb_two (N : Nat) : ofL ([(N : Int) % 256, (N : Int) / 256 % 256].map byteI) = nb N 2 := by
  unfold nb nbI
  rw [show List.range 2 = [0, 1] from rfl]
  simp
theorem add_any (s t : ByteArray) (h : s.size + t.size ≤ 100000) : ∀ W, (Op.stringOp .add s t).run Try.prog W = .ok (.string (s ++ t)) W := fun W => run_string_add_sum W _ _ (by omega)


def encA_ds : List Nat := [48, 49, 50, 51, 52, 53, 54, 55, 56, 57, 58, 59, 60, 61, 6]
def encA_V (g : Nat) (A : Option Addr) (N c nx fl : Nat) (v : Value) (w : World) : Nat → Prop
  | 0 => v = .pointer (some ⟨g, 2, none⟩)
  | 1 => v = .int .u64 nx
  | 2 => v = .string (nb nx 8)
  | 3 => v = .pointer (some ⟨g, 3, none⟩)
  | 4 => v = .int .u64 fl
  | 5 => v = .string (nb fl 8)
  | 6 => v = .string (nb nx 8 ++ nb fl 8)
  | 7 => v = .pointer (some ⟨g, 0, none⟩)
  | 8 => v = .slice A N c
  | 9 => v = .int .i64 N
  | 10 => v = .int .u8 ((N : Int) % 256)
  | 11 => ∃ b, v = .slice (some ⟨b, 0, none⟩) 1 1 ∧ Bys w b [(N : Int) % 256]
  | 12 => v = .string (nb N 1)
  | 13 => v = .string (nb nx 8 ++ nb fl 8 ++ nb N 1)
  | 14 => v = .string (nb nx 8 ++ nb fl 8 ++ nb N 1)
  | _ => True
theorem encA_mono (g : Nat) (A : Option Addr) (N c nx fl : Nat) : ∀ j v w1 w2, encA_V g A N c nx fl v w1 j → Below w1.heap.size w1 w2 → encA_V g A N c nx fl v w2 j := by
  intro j v w1 w2 h hb
  revert h
  unfold encA_V
  split <;> (intro h; first | exact h | (obtain ⟨b, h1, h2⟩ := h; exact ⟨b, h1, h2.keep hb⟩))
def encF_ds : List Nat := [74, 75, 76, 77, 78, 79, 80, 81, 82, 83, 84, 85, 86, 87, 88, 89, 90, 91, 92, 93, 94, 95, 96, 97, 98, 99, 100, 101, 102, 103, 6]
def encF_V (g lv mn : Nat) (acc name low high : ByteArray) (v : Value) (w : World) : Nat → Prop
  | 0 => v = .string acc
  | 1 => v = .pointer (some ⟨g, 0, none⟩)
  | 2 => v = .int .i64 lv
  | 3 => v = .int .u8 ((lv : Int) % 256)
  | 4 => ∃ b, v = .slice (some ⟨b, 0, none⟩) 1 1 ∧ Bys w b [(lv : Int) % 256]
  | 5 => v = .string (nb lv 1)
  | 6 => v = .string (acc ++ nb lv 1)
  | 7 => v = .pointer (some ⟨g, 1, none⟩)
  | 8 => v = .string name
  | 9 => v = .string (sh name)
  | 10 => v = .string (acc ++ nb lv 1 ++ sh name)
  | 11 => v = .pointer (some ⟨g, 2, none⟩)
  | 12 => v = .string low
  | 13 => v = .string (sh low)
  | 14 => v = .string (acc ++ nb lv 1 ++ sh name ++ sh low)
  | 15 => v = .pointer (some ⟨g, 3, none⟩)
  | 16 => v = .string high
  | 17 => v = .string (sh high)
  | 18 => v = .string (acc ++ nb lv 1 ++ sh name ++ sh low ++ sh high)
  | 19 => v = .pointer (some ⟨g, 4, none⟩)
  | 20 => v = .int .i64 mn
  | 21 => v = .int .i64 ((mn : Int) % 256)
  | 22 => v = .int .u8 ((mn : Int) % 256)
  | 23 => v = .pointer (some ⟨g, 4, none⟩)
  | 24 => v = .int .i64 mn
  | 25 => v = .int .i64 ((mn : Int) / 256)
  | 26 => v = .int .u8 ((mn : Int) / 256 % 256)
  | 27 => ∃ b, v = .slice (some ⟨b, 0, none⟩) 2 2 ∧ Bys w b [(mn : Int) % 256, (mn : Int) / 256 % 256]
  | 28 => v = .string (nb mn 2)
  | 29 => v = .string (acc ++ nb lv 1 ++ sh name ++ sh low ++ sh high ++ nb mn 2)
  | 30 => v = .string (acc ++ nb lv 1 ++ sh name ++ sh low ++ sh high ++ nb mn 2)
  | _ => True
theorem encF_mono (g lv mn : Nat) (acc name low high : ByteArray) : ∀ j v w1 w2, encF_V g lv mn acc name low high v w1 j → Below w1.heap.size w1 w2 → encF_V g lv mn acc name low high v w2 j := by
  intro j v w1 w2 h hb
  revert h
  unfold encF_V
  split <;> (intro h; first | exact h | (obtain ⟨b, h1, h2⟩ := h; exact ⟨b, h1, h2.keep hb⟩))
end Go.Proofs.Ytaeemeoffnhgfaa

namespace Go.Proofs.Ytaeemeoffnhgfaa
open Go.RowKit
attribute [local go_sem ↓] Go.wp_at_zero Go.wp_at_succ



theorem refMayL' (f : Fi) (W : World) : Calls Try.prog 38 #[.agg #[.int .i64 f.level, .string f.name, .string f.low, .string f.high, .int .i64 f.many]] W fun e w' => e = .returned (.bool (may f)) ∧ Below W.heap.size W w' := refMay_any f W
theorem encE_bad1 {nx fl k : Nat} {add : List Fi} {del : List ByteArray} (hk : k < add.length) (h : may add[k] = false) : encE nx fl add del = (⟨#[]⟩, 1) := by
  unfold encE badE
  rw [if_pos]
  rw [List.any_eq_true.2 ⟨_, List.getElem_mem hk, by rw [h]; rfl⟩]
  rfl
theorem encE_bad2 {nx fl k : Nat} {add : List Fi} {del : List ByteArray} (hk : k < del.length) (h : nm del[k] 59 = false) : encE nx fl add del = (⟨#[]⟩, 1) := by
  unfold encE badE
  rw [if_pos]
  rw [show (del.any fun s => !nm s 59) = true from List.any_eq_true.2 ⟨_, List.getElem_mem hk, by rw [h]; rfl⟩, Bool.or_true]
theorem badE_of {add : List Fi} {del : List ByteArray} (h1 : (add.all fun x => may x) = true) (h2 : (del.all fun s => nm s 59) = true) : badE add del = false := by
  unfold badE
  rw [List.all_eq_true] at h1 h2
  rw [Bool.or_eq_false_iff, List.any_eq_false, List.any_eq_false]
  exact ⟨fun x hx => by rw [h1 x hx]; simp, fun x hx => by rw [h2 x hx]; simp⟩
theorem encE_wide {nx fl : Nat} {add : List Fi} {del : List ByteArray} (h : badE add del = false) (hw : 255 < add.length ∨ 255 < del.length) : encE nx fl add del = (⟨#[]⟩, 71) := by
  unfold encE wideE
  rw [if_neg (by rw [h]; simp), if_pos]
  rcases hw with hw | hw <;> simp [hw]
theorem encE_ok {nx fl : Nat} {add : List Fi} {del : List ByteArray} (h : badE add del = false) (h1 : add.length ≤ 255) (h2 : del.length ≤ 255) : encE nx fl add del = (encB nx fl add del, 0) := by
  unfold encE wideE
  rw [if_neg (by rw [h]; simp), if_neg]
  simp
  omega
theorem acc_head (nx fl N : Nat) : nb nx 8 ++ nb fl 8 ++ nb N 1 = cat (headE nx fl N ++ ([] : List Fi).flatMap fiParts) := by
  unfold headE
  rw [List.flatMap_nil, List.append_nil, cat_cons, cat_cons, cat_one, ByteArray.append_assoc]
theorem acc_next {acc : ByteArray} {L : List ByteArray} (h : acc = cat L) (a b c d e : ByteArray) : acc ++ a ++ b ++ c ++ d ++ e = cat (L ++ [a, b, c, d, e]) := by
  rw [h, cat_append, cat_cons, cat_cons, cat_cons, cat_cons, cat_one]
  simp only [ByteArray.append_assoc]
theorem acc_size {nx fl N k : Nat} {add : List Fi} (h : ∀ x ∈ add, FiOk x) : (cat (headE nx fl N ++ (add.take k).flatMap fiParts)).size ≤ (3 + 5 * k) * 60 := by
  have h1 := cat_size (headE nx fl N ++ (add.take k).flatMap fiParts) 60 (by
    intro s hs
    unfold headE at hs
    simp only [List.mem_append, List.mem_cons, List.not_mem_nil, or_false, List.mem_flatMap] at hs
    rcases hs with (rfl | rfl | rfl) | ⟨x, hx, hs⟩
    · simp only [nb_size]; omega
    · simp only [nb_size]; omega
    · simp only [nb_size]; omega
    · exact fiParts_size (h x (List.mem_of_mem_take hx)) s hs)
  refine Nat.le_trans h1 (Nat.mul_le_mul_right _ ?_)
  have h2 : ∀ l : List Fi, (l.flatMap fiParts).length = 5 * l.length := fun l => by
    induction l with
    | nil => rfl
    | cons x l ih => rw [List.flatMap_cons, List.length_append, ih, fiParts_len, List.length_cons]; omega
  rw [List.length_append, h2, List.length_take]
  unfold headE
  simp only [List.length_cons, List.length_nil]
  omega
theorem acc_size4 {nx fl N M k : Nat} {add : List Fi} {del : List ByteArray} (h : ∀ x ∈ add, may x = true) (h' : ∀ s ∈ del, nm s 59 = true) : (cat (headE nx fl N ++ add.flatMap fiParts ++ [nb M 1] ++ (del.take k).map sh)).size ≤ (4 + 5 * add.length + k) * 60 := by
  have h1 := acc_size (nx := nx) (fl := fl) (N := N) (k := add.length) (add := add) (fun x hx => FiOk.of (h x hx))
  rw [List.take_of_length_le (Nat.le_refl _)] at h1
  have h2 := cat_size ((del.take k).map sh) 60 (by
    intro s hs
    obtain ⟨t, ht, rfl⟩ := List.mem_map.1 hs
    have := (nm_size (h' t (List.mem_of_mem_take ht))).2
    rw [sh_size]
    omega)
  rw [List.length_map, List.length_take] at h2
  rw [cat_append, cat_append, cat_one, ByteArray.size_append', ByteArray.size_append', nb_size]
  have h3 : min k del.length * 60 ≤ k * 60 := Nat.mul_le_mul_right _ (Nat.min_le_left _ _)
  omega
theorem nb_oneS (N : Nat) (h : N < 256) : ofL ([(N : Int)].map byteI) = nb N 1 := by
  rw [← nb_one N, show (N : Int) % 256 = N by omega]
set_option maxRecDepth 100000 in
set_option maxHeartbeats 16000000 in
theorem refEncode_any (A D : Option Addr) (c d N M : Nat) (add : List Fi) (del : List ByteArray) (nx fl : Nat) (w : World) (hA : Rd w w.heap.size A (fis add)) (hD : Rd w w.heap.size D (del.map Value.string)) (hN : add.length = N) (hM : del.length = M) (hn : N ≤ 100000) (hm : M ≤ 100000) (hnx : nx < 18446744073709551616) (hfl : fl < 18446744073709551616) {S : ByteArray} {E : Int} (hS : encE nx fl add del = (S, E)) :
    Calls Try.prog 23 #[.agg #[.slice A N c, .slice D M d, .int .u64 nx, .int .u64 fl]] w fun e w' => e = .returned (.tuple #[.string S, .int .i64 E]) ∧ Below w.heap.size w w' := by
  have HA := Lib.hid hA
  have HD := Lib.hid hD
  have HN := Lib.hid hN
  have HM := Lib.hid hM
  have HSE := Lib.hid hS
  have HX := Lib.hid (EBox.new 49 w A N c D M d nx fl)
  have HB0 := Lib.hid (below_al w (.cells #[.slice A N c, .slice D M d, .int .u64 nx, .int .u64 fl] 49))
  obtain ⟨W0, hW0⟩ : ∃ W0, w.alloc (.cells #[.slice A N c, .slice D M d, .int .u64 nx, .int .u64 fl] 49) = W0 := ⟨_, rfl⟩
  rw [hW0] at HX HB0
  clear hA hD hN hM hS
  go_enter Try.func23, Try.ntmps23
  go_wp2
  go_loopw [4] (fun v4 wr => ∃ k : Nat, v4 = .int .i64 (k : Int) ∧ k ≤ N ∧ Hid (allTo (fun x => may x) add k) ∧ Hid (EBox 49 wr w.heap.size A N c D M d nx fl) ∧ Hid (Below w.heap.size w wr)) (fun v4 _ => N - (intOf v4).toNat)
  case atStart => exact ⟨0, rfl, Nat.zero_le _, Lib.hid (allTo.zero _ _), HX, HB0⟩
  case round =>
    clear HX HB0 hW0 W0
    obtain ⟨k, rfl, hk, HT, HX, HB⟩ := hrel
    rename World => wr
    obtain ⟨c0, c1, c2, c3⟩ := HX.out.cells
    by_cases hlt : k < N
    · have e1 : decide ((k : Int) < (N : Int)) = true := decide_eq_true (by omega)
      have k1 : (0 : Int) ≤ (k : Int) := by omega
      have k2 : (k : Int) < (N : Int) := by omega
      have hkl : k < add.length := by rw [HN.out]; exact hlt
      obtain ⟨b, o, rfl, hr⟩ := rd_elem (HA.out.below HB.out) hkl
      have HTS := Lib.hid (fun h => HT.out.succ hkl h)
      have HBAD := Lib.hid (fun h => encE_bad1 (nx := nx) (fl := fl) (del := del) hkl h)
      obtain ⟨x, hx⟩ : ∃ x, add[k] = x := ⟨_, rfl⟩
      rw [hx] at hr HTS HBAD
      have HR := Lib.hid hr
      clear hr hx
      cases hmx : may x with
      | true =>
        have HTT := Lib.hid (HTS.out hmx)
        go_wp2_with (first
          | (show wpList _ _ _ ({ dst := some 21, op := Op.load _ _, type := _, pos := _, after := _, guard := _ } :: _) _ _; refine wpList_load_mid rfl 76 (.tmp 20) rfl b (o + k * 5) rfl [.int .i64 x.level, .string x.name, .string x.low, .string x.high, .int .i64 x.many] _ HR.out Try.underlying76 rfl (by kernel_rfl) ?_)
          | (go_at_call 38; refine (refMayL' x _).mono ?_; rintro e w1 ⟨rfl, hb1⟩; rw [hmx]; have HB1 := Lib.hid hb1; clear hb1))
        exact ⟨⟨k + 1, by first | rfl | go_num, by omega, HTT, Lib.hid (HX.out.below HB1.out HX.out.lt), Lib.hid (HB.out.trans (HB1.out.mono HB.out.size))⟩, by simp [intOf]; omega⟩
      | false =>
        have HTT := Lib.hid (HBAD.out hmx)
        go_wp2_with (first
          | (show wpList _ _ _ ({ dst := some 21, op := Op.load _ _, type := _, pos := _, after := _, guard := _ } :: _) _ _; refine wpList_load_mid rfl 76 (.tmp 20) rfl b (o + k * 5) rfl [.int .i64 x.level, .string x.name, .string x.low, .string x.high, .int .i64 x.many] _ HR.out Try.underlying76 rfl (by kernel_rfl) ?_)
          | (go_at_call 38; refine (refMayL' x _).mono ?_; rintro e w1 ⟨rfl, hb1⟩; rw [hmx]; have HB1 := Lib.hid hb1; clear hb1))
        go_ret2
        have h9 := HSE.out
        rw [HTT.out] at h9
        injection h9 with h9 h10
        subst h9 h10
        exact ⟨rfl, HB.out.trans (HB1.out.mono HB.out.size)⟩
    · have e1 : decide ((k : Int) < (N : Int)) = false := decide_eq_false (by omega)
      have HALL := Lib.hid (HT.out.all (by rw [HN.out]; omega))
      clear HT
      go_wp2
      clear c0 c1 c2 c3 e1
      go_loopw [5] (fun v5 wq => ∃ j : Nat, v5 = .int .i64 (j : Int) ∧ j ≤ M ∧ Hid (allTo (fun s => nm s 59) del j) ∧ Hid (EBox 49 wq w.heap.size A N c D M d nx fl) ∧ Hid (Below w.heap.size w wq)) (fun v5 _ => M - (intOf v5).toNat)
      case atStart => exact ⟨0, rfl, Nat.zero_le _, Lib.hid (allTo.zero _ _), HX, HB⟩
      case round =>
        clear HX HB
        obtain ⟨j, rfl, hj, HT, HX, HB⟩ := hrel
        rename World => wq
        obtain ⟨c0, c1, c2, c3⟩ := HX.out.cells
        by_cases hjt : j < M
        · have e1 : decide ((j : Int) < (M : Int)) = true := decide_eq_true (by omega)
          have k1 : (0 : Int) ≤ (j : Int) := by omega
          have k2 : (j : Int) < (M : Int) := by omega
          have hjl : j < del.length := by rw [HM.out]; exact hjt
          obtain ⟨b, o, rfl, -, hcl⟩ := text_elem (HD.out.below HB.out) hjl
          have HTS := Lib.hid (fun h => HT.out.succ hjl h)
          have HBAD := Lib.hid (fun h => encE_bad2 (nx := nx) (fl := fl) (add := add) hjl h)
          obtain ⟨s, hs⟩ : ∃ s, del[j] = s := ⟨_, rfl⟩
          rw [hs] at hcl HTS HBAD
          clear hs
          cases hms : nm s 59 with
          | true =>
            have HTT := Lib.hid (HTS.out hms)
            go_wp2_with (go_at_call 51; refine (refName_any s 59 (by omega) _).mono ?_; rintro e w1 ⟨rfl, rfl⟩; rw [hms])
            exact ⟨⟨j + 1, by first | rfl | go_num, by omega, HTT, HX, HB⟩, by simp [intOf]; omega⟩
          | false =>
            have HTT := Lib.hid (HBAD.out hms)
            go_wp2_with (go_at_call 51; refine (refName_any s 59 (by omega) _).mono ?_; rintro e w1 ⟨rfl, rfl⟩; rw [hms])
            go_ret2
            have h9 := HSE.out
            rw [HTT.out] at h9
            injection h9 with h9 h10
            subst h9 h10
            exact ⟨rfl, HB.out⟩
        · have e1 : decide ((j : Int) < (M : Int)) = false := decide_eq_false (by omega)
          have HBE := Lib.hid (badE_of HALL.out (HT.out.all (by rw [HM.out]; omega)))
          clear HT HALL
          by_cases hw1 : 255 < N
          · have e2 : decide ((255 : Int) < (N : Int)) = true := decide_eq_true (by omega)
            have HTT := Lib.hid (encE_wide (nx := nx) (fl := fl) HBE.out (.inl (by rw [HN.out]; exact hw1)))
            go_wp2
            go_ret2
            have h9 := HSE.out
            rw [HTT.out] at h9
            injection h9 with h9 h10
            subst h9 h10
            exact ⟨rfl, HB.out⟩
          have e2 : decide ((255 : Int) < (N : Int)) = false := decide_eq_false (by omega)
          by_cases hw2 : 255 < M
          · have e3 : decide ((255 : Int) < (M : Int)) = true := decide_eq_true (by omega)
            have HTT := Lib.hid (encE_wide (nx := nx) (fl := fl) HBE.out (.inr (by rw [HM.out]; exact hw2)))
            go_wp2
            go_ret2
            have h9 := HSE.out
            rw [HTT.out] at h9
            injection h9 with h9 h10
            subst h9 h10
            exact ⟨rfl, HB.out⟩
          have e3 : decide ((255 : Int) < (M : Int)) = false := decide_eq_false (by omega)
          have h9 := HSE.out
          rw [encE_ok HBE.out (by rw [HN.out]; omega) (by rw [HM.out]; omega)] at h9
          injection h9 with h9 h10
          subst h9 h10
          clear HSE
          go_wp2
          go_cut [6] (fun s6 wx => s6 = .string (nb nx 8 ++ nb fl 8 ++ nb N 1) ∧ Hid (Below wq.heap.size wq wx))
          case first =>
            rename_i J1 K1 hJ1 hK1
            refine region_tab (by kernel_rfl) encA_ds 128 rfl (by kernel_rfl) (fun j v w' => encA_V w.heap.size A N c nx fl v w' j) (encA_mono _ _ _ _ _ _) ?step ?done
            case step =>
              intro i o ho a' w' hb hk hv
              obtain ⟨d0, d1, d2, d3⟩ := (HX.out.below hb HX.out.lt).cells
              clear c0 c1 c2 c3 e1 e2 e3
              match i, ho with
              | 0, ho =>
                obtain rfl : _ = o := Option.some.inj ho
                have h1 : a'.eval (.tmp 1) = .pointer (some ⟨w.heap.size, 0, none⟩) := hk 1 (by kernel_rfl)
                obtain ⟨ρ, hρ⟩ : ∃ ρ, a'.eval = ρ := ⟨_, rfl⟩
                rw [hρ] at h1
                exact Stp.pure hρ (.pointer (some ⟨w.heap.size, 2, none⟩)) (by first | (go_simp; done) | (go_simp; rfl)) rfl
              | 1, ho =>
                obtain rfl : _ = o := Option.some.inj ho
                have h48 : a'.eval (.tmp 48) = .pointer (some ⟨w.heap.size, 2, none⟩) := hv 0 (by kernel_rfl)
                obtain ⟨ρ, hρ⟩ : ∃ ρ, a'.eval = ρ := ⟨_, rfl⟩
                rw [hρ] at h48
                exact Stp.pure hρ (.int .u64 nx) (by first | (go_simp; done) | (go_simp; rfl)) rfl
              | 2, ho =>
                obtain rfl : _ = o := Option.some.inj ho
                have h49 : a'.eval (.tmp 49) = .int .u64 nx := hv 1 (by kernel_rfl)
                refine Stp.call 52 #[a'.eval (.tmp 49), .bool false] (.string (nb nx 8)) (by kernel_rfl) ?_ (fun _ => rfl)
                rw [h49]
                exact refNumber_any nx hnx w'
              | 3, ho =>
                obtain rfl : _ = o := Option.some.inj ho
                have h1 : a'.eval (.tmp 1) = .pointer (some ⟨w.heap.size, 0, none⟩) := hk 1 (by kernel_rfl)
                obtain ⟨ρ, hρ⟩ : ∃ ρ, a'.eval = ρ := ⟨_, rfl⟩
                rw [hρ] at h1
                exact Stp.pure hρ (.pointer (some ⟨w.heap.size, 3, none⟩)) (by first | (go_simp; done) | (go_simp; rfl)) rfl
              | 4, ho =>
                obtain rfl : _ = o := Option.some.inj ho
                have h51 : a'.eval (.tmp 51) = .pointer (some ⟨w.heap.size, 3, none⟩) := hv 3 (by kernel_rfl)
                obtain ⟨ρ, hρ⟩ : ∃ ρ, a'.eval = ρ := ⟨_, rfl⟩
                rw [hρ] at h51
                exact Stp.pure hρ (.int .u64 fl) (by first | (go_simp; done) | (go_simp; rfl)) rfl
              | 5, ho =>
                obtain rfl : _ = o := Option.some.inj ho
                have h52 : a'.eval (.tmp 52) = .int .u64 fl := hv 4 (by kernel_rfl)
                refine Stp.call 52 #[a'.eval (.tmp 52), .bool false] (.string (nb fl 8)) (by kernel_rfl) ?_ (fun _ => rfl)
                rw [h52]
                exact refNumber_any fl hfl w'
              | 6, ho =>
                obtain rfl : _ = o := Option.some.inj ho
                have h50 : a'.eval (.tmp 50) = .string (nb nx 8) := hv 2 (by kernel_rfl)
                have h53 : a'.eval (.tmp 53) = .string (nb fl 8) := hv 5 (by kernel_rfl)
                have hadd : ∀ W, (Op.stringOp .add (nb nx 8) (nb fl 8)).run Try.prog W = .ok (.string (nb nx 8 ++ nb fl 8)) W := fun W => run_string_add_sum W _ _ (by rw [nb_size, nb_size]; omega)
                obtain ⟨ρ, hρ⟩ : ∃ ρ, a'.eval = ρ := ⟨_, rfl⟩
                rw [hρ] at h50 h53
                exact Stp.pure hρ (.string (nb nx 8 ++ nb fl 8)) (by first | (go_simp; done) | (go_simp; rfl)) rfl
              | 7, ho =>
                obtain rfl : _ = o := Option.some.inj ho
                have h1 : a'.eval (.tmp 1) = .pointer (some ⟨w.heap.size, 0, none⟩) := hk 1 (by kernel_rfl)
                obtain ⟨ρ, hρ⟩ : ∃ ρ, a'.eval = ρ := ⟨_, rfl⟩
                rw [hρ] at h1
                exact Stp.pure hρ (.pointer (some ⟨w.heap.size, 0, none⟩)) (by first | (go_simp; done) | (go_simp; rfl)) rfl
              | 8, ho =>
                obtain rfl : _ = o := Option.some.inj ho
                have h55 : a'.eval (.tmp 55) = .pointer (some ⟨w.heap.size, 0, none⟩) := hv 7 (by kernel_rfl)
                obtain ⟨ρ, hρ⟩ : ∃ ρ, a'.eval = ρ := ⟨_, rfl⟩
                rw [hρ] at h55
                exact Stp.pure hρ (.slice A N c) (by first | (go_simp; done) | (go_simp; rfl)) rfl
              | 9, ho =>
                obtain rfl : _ = o := Option.some.inj ho
                have h56 : a'.eval (.tmp 56) = .slice A N c := hv 8 (by kernel_rfl)
                obtain ⟨ρ, hρ⟩ : ∃ ρ, a'.eval = ρ := ⟨_, rfl⟩
                rw [hρ] at h56
                exact Stp.pure hρ (.int .i64 N) (by first | (go_simp; done) | (go_simp; rfl)) rfl
              | 10, ho =>
                obtain rfl : _ = o := Option.some.inj ho
                have h57 : a'.eval (.tmp 57) = .int .i64 N := hv 9 (by kernel_rfl)
                obtain ⟨ρ, hρ⟩ : ∃ ρ, a'.eval = ρ := ⟨_, rfl⟩
                rw [hρ] at h57
                exact Stp.pure hρ (.int .u8 ((N : Int) % 256)) (by first | (go_simp; done) | (go_simp; rfl)) rfl
              | 11, ho =>
                obtain rfl : _ = o := Option.some.inj ho
                have h58 : a'.eval (.tmp 58) = .int .u8 ((N : Int) % 256) := hv 10 (by kernel_rfl)
                obtain ⟨ρ, hρ⟩ : ∃ ρ, a'.eval = ρ := ⟨_, rfl⟩
                rw [hρ] at h58
                exact Stp.val hρ (.slice (some ⟨w'.heap.size, 0, none⟩) 1 1) (w'.alloc (.cells (([(N : Int) % 256] : List Int).map (Value.int .u8)).toArray 5)) (by simp only [List.map_cons, List.map_nil]; first | (go_simp; done) | (go_simp; rfl)) (below_al _ _) ⟨_, rfl, Bys.made w' [(N : Int) % 256]⟩
              | 12, ho =>
                obtain rfl : _ = o := Option.some.inj ho
                obtain ⟨b59, h59, hB59⟩ : ∃ b, a'.eval (.tmp 59) = .slice (some ⟨b, 0, none⟩) 1 1 ∧ Bys w' b [(N : Int) % 256] := hv 11 (by kernel_rfl)
                have hst := run_strX (c := 1) hB59 1 rfl
                rw [nb_one] at hst
                obtain ⟨ρ, hρ⟩ : ∃ ρ, a'.eval = ρ := ⟨_, rfl⟩
                rw [hρ] at h59
                exact Stp.pure hρ (.string (nb N 1)) (by first | (go_simp; done) | (go_simp; rfl)) rfl
              | 13, ho =>
                obtain rfl : _ = o := Option.some.inj ho
                have h54 : a'.eval (.tmp 54) = .string (nb nx 8 ++ nb fl 8) := hv 6 (by kernel_rfl)
                have h60 : a'.eval (.tmp 60) = .string (nb N 1) := hv 12 (by kernel_rfl)
                have hadd : ∀ W, (Op.stringOp .add (nb nx 8 ++ nb fl 8) (nb N 1)).run Try.prog W = .ok (.string (nb nx 8 ++ nb fl 8 ++ nb N 1)) W := fun W => run_string_add_sum W _ _ (by rw [ByteArray.size_append', nb_size, nb_size, nb_size]; omega)
                obtain ⟨ρ, hρ⟩ : ∃ ρ, a'.eval = ρ := ⟨_, rfl⟩
                rw [hρ] at h54 h60
                exact Stp.pure hρ (.string (nb nx 8 ++ nb fl 8 ++ nb N 1)) (by first | (go_simp; done) | (go_simp; rfl)) rfl
              | 14, ho =>
                obtain rfl : _ = o := Option.some.inj ho
                have h61 : a'.eval (.tmp 61) = .string (nb nx 8 ++ nb fl 8 ++ nb N 1) := hv 13 (by kernel_rfl)
                obtain ⟨ρ, hρ⟩ : ∃ ρ, a'.eval = ρ := ⟨_, rfl⟩
                rw [hρ] at h61
                exact Stp.pure hρ (.string (nb nx 8 ++ nb fl 8 ++ nb N 1)) (by first | (go_simp; done) | (go_simp; rfl)) rfl
              | k + 15, ho => exact absurd (Array.getElem?_eq_some_iff.1 ho).1 (by simp)
            case done =>
              intro u w' hb hV
              have h14 := hV 14 (by decide)
              refine hK1 _ _ (Met.intro (hJ1 _ _ ?_))
              repeat apply Exists.intro
              refine And.intro ?rel ?act
              case act => rfl
              case rel => exact ⟨h14, Lib.hid hb⟩
          case rest =>
            obtain ⟨rfl, HBC⟩ := hcut
            rename World => wc
            have HXC := Lib.hid (HX.out.below HBC.out HX.out.lt)
            have HBW := Lib.hid (HB.out.trans (HBC.out.mono HB.out.size))
            obtain ⟨acc0, hacc0⟩ : ∃ a, nb nx 8 ++ nb fl 8 ++ nb N 1 = a := ⟨_, rfl⟩
            have HA0 := Lib.hid (show acc0 = cat (headE nx fl N ++ (add.take 0).flatMap fiParts) by rw [← hacc0]; exact acc_head nx fl N)
            rw [hacc0]
            have HMAY := Lib.hid (badE_false HBE.out)
            clear hacc0 HX HB HBC c0 c1 c2 c3 e1 e2 e3
            obtain ⟨c0, c1, c2, c3⟩ := HXC.out.cells
            go_wp2
            clear c0 c1 c2 c3
            go_loopw [6, 7] (fun v6 v7 wr => ∃ (k : Nat) (acc : ByteArray), v6 = .string acc ∧ v7 = .int .i64 (k : Int) ∧ k ≤ N ∧ Hid (acc = cat (headE nx fl N ++ (add.take k).flatMap fiParts)) ∧ Hid (EBox 49 wr w.heap.size A N c D M d nx fl) ∧ Hid (Below w.heap.size w wr)) (fun _ v7 _ => N - (intOf v7).toNat)
            case atStart => exact ⟨0, acc0, rfl, rfl, Nat.zero_le _, HA0, HXC, HBW⟩
            case round =>
              clear HXC HBW HA0
              obtain ⟨k3, acc, rfl, rfl, hk3, HAC, HX, HB⟩ := hrel
              rename World => wr3
              obtain ⟨c0, c1, c2, c3⟩ := HX.out.cells
              have hac := acc_size (nx := nx) (fl := fl) (N := N) (k := k3) (add := add) (fun x hx => FiOk.of (HMAY.out.1 x hx))
              rw [← HAC.out] at hac
              by_cases hlt3 : k3 < N
              · have e1 : decide ((k3 : Int) < (N : Int)) = true := decide_eq_true (by omega)
                have k1 : (0 : Int) ≤ (k3 : Int) := by omega
                have k2 : (k3 : Int) < (N : Int) := by omega
                have hkl : k3 < add.length := by rw [HN.out]; exact hlt3
                obtain ⟨b, o, rfl, hr⟩ := rd_elem (HA.out.below HB.out) hkl
                have htk := take_flat (f := fiParts) hkl
                have hok := FiOk.of (HMAY.out.1 _ (List.getElem_mem hkl))
                obtain ⟨x, hx⟩ : ∃ x, add[k3] = x := ⟨_, rfl⟩
                rw [hx] at hr htk hok
                obtain ⟨lv, hlv, hl2⟩ := hok.lv
                obtain ⟨mn, hmn, hm1, hm2⟩ := hok.mn
                have s1 := hok.nm
                have s2 := hok.lo
                have s3 := hok.hi
                have hfp : fiParts x = [nb lv 1, sh x.name, sh x.low, sh x.high, nb mn 2] := by unfold fiParts; rw [hlv, hmn]; rfl
                rw [hfp] at htk
                have HNX := Lib.hid (acc_next HAC.out (nb lv 1) (sh x.name) (sh x.low) (sh x.high) (nb mn 2))
                have HTK := Lib.hid htk
                have HR := Lib.hid hr
                have HLV := Lib.hid (And.intro hlv hmn)
                clear hr hx htk hok hlv hmn hfp
                go_upto_block 5 with fail
                go_cut [6] (fun s6 wx => s6 = .string (acc ++ nb lv 1 ++ sh x.name ++ sh x.low ++ sh x.high ++ nb mn 2) ∧ Hid (Below wr3.heap.size wr3 wx))
                case first =>
                  rename_i J1 K1 hJ1 hK1
                  go_upto_region 18 with (first
                    | (show wpList _ _ _ ({ dst := some 73, op := Op.load _ _, type := _, pos := _, after := _, guard := _ } :: _) _ _; refine wpList_load_mid rfl 76 (.tmp 72) rfl b (o + k3 * 5) rfl x.vals _ HR.out Try.underlying76 rfl (by kernel_rfl) ?_)
                    | (show wpList _ _ _ ({ dst := none, op := Op.store _ (Operand.tmp 8) _, type := _, pos := _, after := _, guard := _ } :: _) _ _; refine wpList_store_mid rfl 76 (.tmp 8) (.tmp 73) rfl wr3.heap.size 0 x.vals.toArray rfl rfl (FBox.there_made _ _ _ _ _ _ _) (by kernel_rfl) (all_oneCell_toArray (Fi.one x)) ?_; refine FBox.madeW 76 wr3 _ _ _ _ _ x ?_; intro w6 HG6 HB6))
                  clear c0 c1 c2 c3 e1
                  have add1 := add_any acc (nb lv 1) (by simp only [nb_size]; omega)
                  have add2 := add_any (acc ++ nb lv 1) (sh x.name) (by simp only [ByteArray.size_append', nb_size, sh_size]; omega)
                  have add3 := add_any (acc ++ nb lv 1 ++ sh x.name) (sh x.low) (by simp only [ByteArray.size_append', nb_size, sh_size]; omega)
                  have add4 := add_any (acc ++ nb lv 1 ++ sh x.name ++ sh x.low) (sh x.high) (by simp only [ByteArray.size_append', nb_size, sh_size]; omega)
                  have add5 := add_any (acc ++ nb lv 1 ++ sh x.name ++ sh x.low ++ sh x.high) (nb mn 2) (by simp only [ByteArray.size_append', nb_size, sh_size]; omega)
                  have mn0 : (0 : Int) ≤ (mn : Int) := by omega
                  have mn2 : IntKind.i64.wrap ((mn : Int) / 256) = (mn : Int) / 256 := IntWalk.i64_in _ (by omega)
                  have mn1 : IntKind.u8.wrap ((mn : Int) % 256) = (mn : Int) % 256 := by rw [show IntKind.u8.wrap ((mn : Int) % 256) = (mn : Int) % 256 % 256 from rfl]; omega
                  refine region_tab (by kernel_rfl) encF_ds 128 rfl (by kernel_rfl) (fun j v w' => encF_V wr3.heap.size lv mn acc x.name x.low x.high v w' j) (encF_mono _ _ _ _ _ _ _) ?step2 ?done2
                  case step2 =>
                    intro i o ho a' w' hb hk hv
                    obtain ⟨f0, f1, f2, f3, f4⟩ := (HG6.out.below hb HG6.out.lt).cells
                    rw [HLV.out.1] at f0
                    rw [HLV.out.2] at f4
                    match i, ho with
                    | 0, ho =>
                      obtain rfl : _ = o := Option.some.inj ho
                      have h6 : a'.eval (.tmp 6) = .string acc := hk 6 (by kernel_rfl)
                      obtain ⟨ρ, hρ⟩ : ∃ ρ, a'.eval = ρ := ⟨_, rfl⟩
                      rw [hρ] at h6
                      exact Stp.pure hρ (.string acc) (by first | (go_simp; done) | (go_simp; rfl)) rfl
                    | 1, ho =>
                      obtain rfl : _ = o := Option.some.inj ho
                      have h8 : a'.eval (.tmp 8) = .pointer (some ⟨wr3.heap.size, 0, none⟩) := hk 8 (by kernel_rfl)
                      obtain ⟨ρ, hρ⟩ : ∃ ρ, a'.eval = ρ := ⟨_, rfl⟩
                      rw [hρ] at h8
                      exact Stp.pure hρ (.pointer (some ⟨wr3.heap.size, 0, none⟩)) (by first | (go_simp; done) | (go_simp; rfl)) rfl
                    | 2, ho =>
                      obtain rfl : _ = o := Option.some.inj ho
                      have h75 : a'.eval (.tmp 75) = .pointer (some ⟨wr3.heap.size, 0, none⟩) := hv 1 (by kernel_rfl)
                      obtain ⟨ρ, hρ⟩ : ∃ ρ, a'.eval = ρ := ⟨_, rfl⟩
                      rw [hρ] at h75
                      exact Stp.pure hρ (.int .i64 lv) (by first | (go_simp; done) | (go_simp; rfl)) rfl
                    | 3, ho =>
                      obtain rfl : _ = o := Option.some.inj ho
                      have h76 : a'.eval (.tmp 76) = .int .i64 lv := hv 2 (by kernel_rfl)
                      obtain ⟨ρ, hρ⟩ : ∃ ρ, a'.eval = ρ := ⟨_, rfl⟩
                      rw [hρ] at h76
                      exact Stp.pure hρ (.int .u8 ((lv : Int) % 256)) (by first | (go_simp; done) | (go_simp; rfl)) rfl
                    | 4, ho =>
                      obtain rfl : _ = o := Option.some.inj ho
                      have h77 : a'.eval (.tmp 77) = .int .u8 ((lv : Int) % 256) := hv 3 (by kernel_rfl)
                      obtain ⟨ρ, hρ⟩ : ∃ ρ, a'.eval = ρ := ⟨_, rfl⟩
                      rw [hρ] at h77
                      exact Stp.val hρ (.slice (some ⟨w'.heap.size, 0, none⟩) 1 1) (w'.alloc (.cells (([(lv : Int) % 256] : List Int).map (Value.int .u8)).toArray 5)) (by simp only [List.map_cons, List.map_nil]; first | (go_simp; done) | (go_simp; rfl)) (below_al _ _) ⟨_, rfl, Bys.made w' [(lv : Int) % 256]⟩
                    | 5, ho =>
                      obtain rfl : _ = o := Option.some.inj ho
                      obtain ⟨b78, h78, hB78⟩ : ∃ b, a'.eval (.tmp 78) = .slice (some ⟨b, 0, none⟩) 1 1 ∧ Bys w' b [(lv : Int) % 256] := hv 4 (by kernel_rfl)
                      have hst := run_strX (c := 1) hB78 1 rfl
                      rw [nb_one] at hst
                      obtain ⟨ρ, hρ⟩ : ∃ ρ, a'.eval = ρ := ⟨_, rfl⟩
                      rw [hρ] at h78
                      exact Stp.pure hρ (.string (nb lv 1)) (by first | (go_simp; done) | (go_simp; rfl)) rfl
                    | 6, ho =>
                      obtain rfl : _ = o := Option.some.inj ho
                      have h74 : a'.eval (.tmp 74) = .string acc := hv 0 (by kernel_rfl)
                      have h79 : a'.eval (.tmp 79) = .string (nb lv 1) := hv 5 (by kernel_rfl)
                      have hadd := add1
                      obtain ⟨ρ, hρ⟩ : ∃ ρ, a'.eval = ρ := ⟨_, rfl⟩
                      rw [hρ] at h74 h79
                      exact Stp.pure hρ (.string (acc ++ nb lv 1)) (by first | (go_simp; done) | (go_simp; rfl)) rfl
                    | 7, ho =>
                      obtain rfl : _ = o := Option.some.inj ho
                      have h8 : a'.eval (.tmp 8) = .pointer (some ⟨wr3.heap.size, 0, none⟩) := hk 8 (by kernel_rfl)
                      obtain ⟨ρ, hρ⟩ : ∃ ρ, a'.eval = ρ := ⟨_, rfl⟩
                      rw [hρ] at h8
                      exact Stp.pure hρ (.pointer (some ⟨wr3.heap.size, 1, none⟩)) (by first | (go_simp; done) | (go_simp; rfl)) rfl
                    | 8, ho =>
                      obtain rfl : _ = o := Option.some.inj ho
                      have h81 : a'.eval (.tmp 81) = .pointer (some ⟨wr3.heap.size, 1, none⟩) := hv 7 (by kernel_rfl)
                      obtain ⟨ρ, hρ⟩ : ∃ ρ, a'.eval = ρ := ⟨_, rfl⟩
                      rw [hρ] at h81
                      exact Stp.pure hρ (.string x.name) (by first | (go_simp; done) | (go_simp; rfl)) rfl
                    | 9, ho =>
                      obtain rfl : _ = o := Option.some.inj ho
                      have h82 : a'.eval (.tmp 82) = .string x.name := hv 8 (by kernel_rfl)
                      refine Stp.call 53 #[a'.eval (.tmp 82)] (.string (sh x.name)) (by kernel_rfl) ?_ (fun _ => rfl)
                      rw [h82]
                      exact refShort_any x.name w' (by omega)
                    | 10, ho =>
                      obtain rfl : _ = o := Option.some.inj ho
                      have h80 : a'.eval (.tmp 80) = .string (acc ++ nb lv 1) := hv 6 (by kernel_rfl)
                      have h83 : a'.eval (.tmp 83) = .string (sh x.name) := hv 9 (by kernel_rfl)
                      have hadd := add2
                      obtain ⟨ρ, hρ⟩ : ∃ ρ, a'.eval = ρ := ⟨_, rfl⟩
                      rw [hρ] at h80 h83
                      exact Stp.pure hρ (.string (acc ++ nb lv 1 ++ sh x.name)) (by first | (go_simp; done) | (go_simp; rfl)) rfl
                    | 11, ho =>
                      obtain rfl : _ = o := Option.some.inj ho
                      have h8 : a'.eval (.tmp 8) = .pointer (some ⟨wr3.heap.size, 0, none⟩) := hk 8 (by kernel_rfl)
                      obtain ⟨ρ, hρ⟩ : ∃ ρ, a'.eval = ρ := ⟨_, rfl⟩
                      rw [hρ] at h8
                      exact Stp.pure hρ (.pointer (some ⟨wr3.heap.size, 2, none⟩)) (by first | (go_simp; done) | (go_simp; rfl)) rfl
                    | 12, ho =>
                      obtain rfl : _ = o := Option.some.inj ho
                      have h85 : a'.eval (.tmp 85) = .pointer (some ⟨wr3.heap.size, 2, none⟩) := hv 11 (by kernel_rfl)
                      obtain ⟨ρ, hρ⟩ : ∃ ρ, a'.eval = ρ := ⟨_, rfl⟩
                      rw [hρ] at h85
                      exact Stp.pure hρ (.string x.low) (by first | (go_simp; done) | (go_simp; rfl)) rfl
                    | 13, ho =>
                      obtain rfl : _ = o := Option.some.inj ho
                      have h86 : a'.eval (.tmp 86) = .string x.low := hv 12 (by kernel_rfl)
                      refine Stp.call 53 #[a'.eval (.tmp 86)] (.string (sh x.low)) (by kernel_rfl) ?_ (fun _ => rfl)
                      rw [h86]
                      exact refShort_any x.low w' (by omega)
                    | 14, ho =>
                      obtain rfl : _ = o := Option.some.inj ho
                      have h84 : a'.eval (.tmp 84) = .string (acc ++ nb lv 1 ++ sh x.name) := hv 10 (by kernel_rfl)
                      have h87 : a'.eval (.tmp 87) = .string (sh x.low) := hv 13 (by kernel_rfl)
                      have hadd := add3
                      obtain ⟨ρ, hρ⟩ : ∃ ρ, a'.eval = ρ := ⟨_, rfl⟩
                      rw [hρ] at h84 h87
                      exact Stp.pure hρ (.string (acc ++ nb lv 1 ++ sh x.name ++ sh x.low)) (by first | (go_simp; done) | (go_simp; rfl)) rfl
                    | 15, ho =>
                      obtain rfl : _ = o := Option.some.inj ho
                      have h8 : a'.eval (.tmp 8) = .pointer (some ⟨wr3.heap.size, 0, none⟩) := hk 8 (by kernel_rfl)
                      obtain ⟨ρ, hρ⟩ : ∃ ρ, a'.eval = ρ := ⟨_, rfl⟩
                      rw [hρ] at h8
                      exact Stp.pure hρ (.pointer (some ⟨wr3.heap.size, 3, none⟩)) (by first | (go_simp; done) | (go_simp; rfl)) rfl
                    | 16, ho =>
                      obtain rfl : _ = o := Option.some.inj ho
                      have h89 : a'.eval (.tmp 89) = .pointer (some ⟨wr3.heap.size, 3, none⟩) := hv 15 (by kernel_rfl)
                      obtain ⟨ρ, hρ⟩ : ∃ ρ, a'.eval = ρ := ⟨_, rfl⟩
                      rw [hρ] at h89
                      exact Stp.pure hρ (.string x.high) (by first | (go_simp; done) | (go_simp; rfl)) rfl
                    | 17, ho =>
                      obtain rfl : _ = o := Option.some.inj ho
                      have h90 : a'.eval (.tmp 90) = .string x.high := hv 16 (by kernel_rfl)
                      refine Stp.call 53 #[a'.eval (.tmp 90)] (.string (sh x.high)) (by kernel_rfl) ?_ (fun _ => rfl)
                      rw [h90]
                      exact refShort_any x.high w' (by omega)
                    | 18, ho =>
                      obtain rfl : _ = o := Option.some.inj ho
                      have h88 : a'.eval (.tmp 88) = .string (acc ++ nb lv 1 ++ sh x.name ++ sh x.low) := hv 14 (by kernel_rfl)
                      have h91 : a'.eval (.tmp 91) = .string (sh x.high) := hv 17 (by kernel_rfl)
                      have hadd := add4
                      obtain ⟨ρ, hρ⟩ : ∃ ρ, a'.eval = ρ := ⟨_, rfl⟩
                      rw [hρ] at h88 h91
                      exact Stp.pure hρ (.string (acc ++ nb lv 1 ++ sh x.name ++ sh x.low ++ sh x.high)) (by first | (go_simp; done) | (go_simp; rfl)) rfl
                    | 19, ho =>
                      obtain rfl : _ = o := Option.some.inj ho
                      have h8 : a'.eval (.tmp 8) = .pointer (some ⟨wr3.heap.size, 0, none⟩) := hk 8 (by kernel_rfl)
                      obtain ⟨ρ, hρ⟩ : ∃ ρ, a'.eval = ρ := ⟨_, rfl⟩
                      rw [hρ] at h8
                      exact Stp.pure hρ (.pointer (some ⟨wr3.heap.size, 4, none⟩)) (by first | (go_simp; done) | (go_simp; rfl)) rfl
                    | 20, ho =>
                      obtain rfl : _ = o := Option.some.inj ho
                      have h93 : a'.eval (.tmp 93) = .pointer (some ⟨wr3.heap.size, 4, none⟩) := hv 19 (by kernel_rfl)
                      obtain ⟨ρ, hρ⟩ : ∃ ρ, a'.eval = ρ := ⟨_, rfl⟩
                      rw [hρ] at h93
                      exact Stp.pure hρ (.int .i64 mn) (by first | (go_simp; done) | (go_simp; rfl)) rfl
                    | 21, ho =>
                      obtain rfl : _ = o := Option.some.inj ho
                      have h94 : a'.eval (.tmp 94) = .int .i64 mn := hv 20 (by kernel_rfl)
                      have hmn := mn0
                      obtain ⟨ρ, hρ⟩ : ∃ ρ, a'.eval = ρ := ⟨_, rfl⟩
                      have hcs : ∀ v, ρ (.const v) = v := by rw [← hρ]; exact fun _ => rfl
                      rw [hρ] at h94
                      exact Stp.pure hρ (.int .i64 ((mn : Int) % 256)) (by first | (go_simp; done) | (go_simp; rfl)) rfl
                    | 22, ho =>
                      obtain rfl : _ = o := Option.some.inj ho
                      have h95 : a'.eval (.tmp 95) = .int .i64 ((mn : Int) % 256) := hv 21 (by kernel_rfl)
                      have hmn := mn1
                      obtain ⟨ρ, hρ⟩ : ∃ ρ, a'.eval = ρ := ⟨_, rfl⟩
                      rw [hρ] at h95
                      exact Stp.pure hρ (.int .u8 ((mn : Int) % 256)) (by first | (go_simp; done) | (go_simp; rfl)) rfl
                    | 23, ho =>
                      obtain rfl : _ = o := Option.some.inj ho
                      have h8 : a'.eval (.tmp 8) = .pointer (some ⟨wr3.heap.size, 0, none⟩) := hk 8 (by kernel_rfl)
                      obtain ⟨ρ, hρ⟩ : ∃ ρ, a'.eval = ρ := ⟨_, rfl⟩
                      rw [hρ] at h8
                      exact Stp.pure hρ (.pointer (some ⟨wr3.heap.size, 4, none⟩)) (by first | (go_simp; done) | (go_simp; rfl)) rfl
                    | 24, ho =>
                      obtain rfl : _ = o := Option.some.inj ho
                      have h97 : a'.eval (.tmp 97) = .pointer (some ⟨wr3.heap.size, 4, none⟩) := hv 23 (by kernel_rfl)
                      obtain ⟨ρ, hρ⟩ : ∃ ρ, a'.eval = ρ := ⟨_, rfl⟩
                      rw [hρ] at h97
                      exact Stp.pure hρ (.int .i64 mn) (by first | (go_simp; done) | (go_simp; rfl)) rfl
                    | 25, ho =>
                      obtain rfl : _ = o := Option.some.inj ho
                      have h98 : a'.eval (.tmp 98) = .int .i64 mn := hv 24 (by kernel_rfl)
                      have hmn := mn0
                      have hmq := mn2
                      obtain ⟨ρ, hρ⟩ : ∃ ρ, a'.eval = ρ := ⟨_, rfl⟩
                      have hcs : ∀ v, ρ (.const v) = v := by rw [← hρ]; exact fun _ => rfl
                      rw [hρ] at h98
                      exact Stp.pure hρ (.int .i64 ((mn : Int) / 256)) (by first | (go_simp; done) | (go_simp; rfl)) rfl
                    | 26, ho =>
                      obtain rfl : _ = o := Option.some.inj ho
                      have h99 : a'.eval (.tmp 99) = .int .i64 ((mn : Int) / 256) := hv 25 (by kernel_rfl)
                      obtain ⟨ρ, hρ⟩ : ∃ ρ, a'.eval = ρ := ⟨_, rfl⟩
                      rw [hρ] at h99
                      exact Stp.pure hρ (.int .u8 ((mn : Int) / 256 % 256)) (by first | (go_simp; done) | (go_simp; rfl)) rfl
                    | 27, ho =>
                      obtain rfl : _ = o := Option.some.inj ho
                      have h96 : a'.eval (.tmp 96) = .int .u8 ((mn : Int) % 256) := hv 22 (by kernel_rfl)
                      have h100 : a'.eval (.tmp 100) = .int .u8 ((mn : Int) / 256 % 256) := hv 26 (by kernel_rfl)
                      obtain ⟨ρ, hρ⟩ : ∃ ρ, a'.eval = ρ := ⟨_, rfl⟩
                      rw [hρ] at h96 h100
                      exact Stp.val hρ (.slice (some ⟨w'.heap.size, 0, none⟩) 2 2) (w'.alloc (.cells (([(mn : Int) % 256, (mn : Int) / 256 % 256] : List Int).map (Value.int .u8)).toArray 5)) (by simp only [List.map_cons, List.map_nil]; first | (go_simp; done) | (go_simp; rfl)) (below_al _ _) ⟨_, rfl, Bys.made w' [(mn : Int) % 256, (mn : Int) / 256 % 256]⟩
                    | 28, ho =>
                      obtain rfl : _ = o := Option.some.inj ho
                      obtain ⟨b101, h101, hB101⟩ : ∃ b, a'.eval (.tmp 101) = .slice (some ⟨b, 0, none⟩) 2 2 ∧ Bys w' b [(mn : Int) % 256, (mn : Int) / 256 % 256] := hv 27 (by kernel_rfl)
                      have hst := run_strX (c := 2) hB101 2 rfl
                      rw [nb_two] at hst
                      obtain ⟨ρ, hρ⟩ : ∃ ρ, a'.eval = ρ := ⟨_, rfl⟩
                      rw [hρ] at h101
                      exact Stp.pure hρ (.string (nb mn 2)) (by first | (go_simp; done) | (go_simp; rfl)) rfl
                    | 29, ho =>
                      obtain rfl : _ = o := Option.some.inj ho
                      have h92 : a'.eval (.tmp 92) = .string (acc ++ nb lv 1 ++ sh x.name ++ sh x.low ++ sh x.high) := hv 18 (by kernel_rfl)
                      have h102 : a'.eval (.tmp 102) = .string (nb mn 2) := hv 28 (by kernel_rfl)
                      have hadd := add5
                      obtain ⟨ρ, hρ⟩ : ∃ ρ, a'.eval = ρ := ⟨_, rfl⟩
                      rw [hρ] at h92 h102
                      exact Stp.pure hρ (.string (acc ++ nb lv 1 ++ sh x.name ++ sh x.low ++ sh x.high ++ nb mn 2)) (by first | (go_simp; done) | (go_simp; rfl)) rfl
                    | 30, ho =>
                      obtain rfl : _ = o := Option.some.inj ho
                      have h103 : a'.eval (.tmp 103) = .string (acc ++ nb lv 1 ++ sh x.name ++ sh x.low ++ sh x.high ++ nb mn 2) := hv 29 (by kernel_rfl)
                      obtain ⟨ρ, hρ⟩ : ∃ ρ, a'.eval = ρ := ⟨_, rfl⟩
                      rw [hρ] at h103
                      exact Stp.pure hρ (.string (acc ++ nb lv 1 ++ sh x.name ++ sh x.low ++ sh x.high ++ nb mn 2)) (by first | (go_simp; done) | (go_simp; rfl)) rfl
                    | k + 31, ho => exact absurd (Array.getElem?_eq_some_iff.1 ho).1 (by simp)
                  case done2 =>
                    intro u w' hb hV
                    have h30 := hV 30 (by decide)
                    refine hK1 _ _ (Met.intro (hJ1 _ _ ?_))
                    repeat apply Exists.intro
                    refine And.intro ?rel ?act
                    case act => rfl
                    case rel => exact ⟨h30, Lib.hid (HB6.out.trans (hb.mono HB6.out.size))⟩
                case rest =>
                  obtain ⟨rfl, HBC⟩ := hcut
                  rename World => wc3
                  have hnx3 := HNX.out
                  rw [List.append_assoc, ← HTK.out] at hnx3
                  have HN3 := Lib.hid hnx3
                  obtain ⟨acc9, hacc9⟩ : ∃ a, acc ++ nb lv 1 ++ sh x.name ++ sh x.low ++ sh x.high ++ nb mn 2 = a := ⟨_, rfl⟩
                  rw [hacc9] at HN3
                  rw [hacc9]
                  clear hacc9 hnx3
                  go_wp2
                  exact ⟨⟨k3 + 1, acc9, rfl, by first | rfl | go_num, by omega, HN3, Lib.hid (HX.out.below HBC.out HX.out.lt), Lib.hid (HB.out.trans (HBC.out.mono HB.out.size))⟩, by simp [intOf]; omega⟩
              · have e1 : decide ((k3 : Int) < (N : Int)) = false := decide_eq_false (by omega)
                have hac3 := HAC.out
                rw [List.take_of_length_le (by rw [HN.out]; omega)] at hac3
                have HAF := Lib.hid hac3
                have hst := run_strX (c := 1) (Bys.made wr3 [(M : Int)]) 1 rfl
                rw [nb_oneS M (by omega)] at hst
                simp only [List.map_cons, List.map_nil] at hst
                have hadd := add_any acc (nb M 1) (by simp only [nb_size]; omega)
                clear HAC hac3
                go_wp2
                clear hst hadd c0 c1 c2 c3 e1
                obtain ⟨acc1, hacc1⟩ : ∃ a, acc ++ nb M 1 = a := ⟨_, rfl⟩
                have HA1 := Lib.hid (show acc1 = cat (headE nx fl N ++ add.flatMap fiParts ++ [nb M 1] ++ (del.take 0).map sh) by rw [← hacc1, HAF.out, List.take_zero, List.map_nil, List.append_nil, cat_append _ [nb M 1], cat_one])
                rw [hacc1]
                have HXA := Lib.hid (HX.out.below (below_al wr3 (.cells #[.int .u8 (M : Int)] 5)) HX.out.lt)
                have HBA := Lib.hid (HB.out.trans ((below_al wr3 (.cells #[.int .u8 (M : Int)] 5)).mono HB.out.size))
                clear hacc1 HAF
                go_loopw [6, 9] (fun v6 v9 wp => ∃ (j : Nat) (ac : ByteArray), v6 = .string ac ∧ v9 = .int .i64 (j : Int) ∧ j ≤ M ∧ Hid (ac = cat (headE nx fl N ++ add.flatMap fiParts ++ [nb M 1] ++ (del.take j).map sh)) ∧ Hid (EBox 49 wp w.heap.size A N c D M d nx fl) ∧ Hid (Below w.heap.size w wp)) (fun _ v9 _ => M - (intOf v9).toNat)
                case atStart => exact ⟨0, acc1, rfl, rfl, Nat.zero_le _, HA1, HXA, HBA⟩
                case round =>
                  clear HX HB HXA HBA HA1
                  obtain ⟨j4, ac, rfl, rfl, hj4, HAC, HX, HB⟩ := hrel
                  rename World => wp4
                  obtain ⟨c0, c1, c2, c3⟩ := HX.out.cells
                  by_cases hjt4 : j4 < M
                  · have e1 : decide ((j4 : Int) < (M : Int)) = true := decide_eq_true (by omega)
                    have k1 : (0 : Int) ≤ (j4 : Int) := by omega
                    have k2 : (j4 : Int) < (M : Int) := by omega
                    have hjl : j4 < del.length := by rw [HM.out]; exact hjt4
                    obtain ⟨b, o, rfl, -, hcl⟩ := text_elem (HD.out.below HB.out) hjl
                    have htk := take_mapS (f := sh) hjl
                    have hsz := (nm_size (HMAY.out.2 _ (List.getElem_mem hjl))).2
                    have hac4 := acc_size4 (nx := nx) (fl := fl) (N := N) (M := M) (k := j4) HMAY.out.1 HMAY.out.2
                    rw [← HAC.out, HN.out] at hac4
                    obtain ⟨s, hs⟩ : ∃ s, del[j4] = s := ⟨_, rfl⟩
                    rw [hs] at hcl htk hsz
                    have HTK := Lib.hid (show ac ++ sh s = cat (headE nx fl N ++ add.flatMap fiParts ++ [nb M 1] ++ (del.take (j4 + 1)).map sh) by rw [htk, ← List.append_assoc, cat_append _ [sh s], cat_one, HAC.out])
                    have hadd := add_any ac (sh s) (by rw [sh_size]; omega)
                    clear hs htk
                    go_wp2_with (go_at_call 53; refine (refShort_any s _ (by omega)).mono ?_; rintro e w1 ⟨rfl, hb1⟩; have HB1 := Lib.hid hb1; clear hb1)
                    exact ⟨⟨j4 + 1, _, rfl, by first | rfl | go_num, by omega, HTK, Lib.hid (HX.out.below HB1.out HX.out.lt), Lib.hid (HB.out.trans (HB1.out.mono HB.out.size))⟩, by simp [intOf]; omega⟩
                  · have e1 : decide ((j4 : Int) < (M : Int)) = false := decide_eq_false (by omega)
                    have hac3 := HAC.out
                    rw [List.take_of_length_le (by rw [HM.out]; omega)] at hac3
                    have HAF := Lib.hid (show ac = encB nx fl add del by unfold encB partsE; rw [HN.out, HM.out]; exact hac3)
                    clear HAC hac3
                    go_wp2
                    go_ret2
                    exact ⟨by rw [← HAF.out]; rfl, HB.out⟩
end Go.Proofs.Ytaeemeoffnhgfaa
