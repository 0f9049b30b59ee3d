/-
  The walk of manifest.Encode. No conditions.
-/
import Derived.Test.YtaeemeoffnhgfaaByA13
import Derived.Sort.CutIn
namespace Go.Proofs.Ytaeemeoffnhgfaa
open Go.RowKit
attribute [local go_sem ↓] Go.wp_at_zero Go.wp_at_succ

theorem textInfo : (Try.prog.info? 9).map (fun i => (i.zero, i.size, i.bytes)) = some (some (.string ⟨#[]⟩), 1, 16) := by kernel_rfl
def OwnS (w : World) (B : Nat) (A : Option Addr) (n c : Nat) (l : List ByteArray) : Prop := Own w B 9 1 A n c (l.map Value.string)
theorem OwnS.below {w w' : World} {B n c : Nat} {A : Option Addr} {l : List ByteArray} (h : OwnS w B A n c l) (hb : Below w.heap.size w w') : OwnS w' B A n c l := Own.below h hb
theorem OwnS.len {w : World} {B n c : Nat} {A : Option Addr} {l : List ByteArray} (h : OwnS w B A n c l) : l.length = n := by simpa using Own.length h
theorem OwnS.rd {w : World} {B n c : Nat} {A : Option Addr} {l : List ByteArray} (h : OwnS w B A n c l) : Rd w w.heap.size A (l.map Value.string) := Own.rd h (by omega)
theorem texts_one (l : List ByteArray) : ∀ u ∈ l.map Value.string, u.oneCell' = true := by
  intro u hu
  obtain ⟨s, _, rfl⟩ := List.mem_map.1 hu
  rfl
theorem texts_app {w : World} {ops : Array Oper} {rest : List Oper} {o : Oper} {a : Act} {Q : Exit → Act → World → Prop} (hw : Region.wanted o (yielded ops a.tmps) = true) (s x : Operand)
    (ho : o.op = .call { callee := .builtin .append, args := #[s, x], argTypes := #[34, 34] })
    (B : Nat) (A : Option Addr) (n c N : Nat) (L add : List ByteArray) (hs : a.eval s = .slice A n c) (hown : OwnS w B A n c L) (A2 : Option Addr) (m c2 : Nat) (hx : a.eval x = .slice A2 m c2) (hr : Rd w w.heap.size A2 (add.map Value.string)) (hm : add.length = m)
    (hN : n + m = N) (hl : N ≤ 1000000) (hB : B ≤ w.heap.size)
    (h : ∀ A' c' w', Hid (OwnS w' B A' N c' (L ++ add)) → Hid (w.grownBy w' (blk A)) → wpList Try.prog ops Q rest (a.put o.dst (.slice A' N c')) w') : wpList Try.prog ops Q (o :: rest) a w := by
  obtain ⟨i0, hi0, hz0, hz1, hz2⟩ := info_parts textInfo
  subst hN
  refine wpList_app_g hw s x 34 ho B 9 i0 (.string ⟨#[]⟩) 1 16 Try.underlying34 hi0 hz0 hz1 hz2 rfl (by decide) A n c (L.map Value.string) hs hown w.heap.size A2 m c2 (add.map Value.string) hx hr (by simp [hm]) (texts_one add) (by unfold maxLen; omega) (by omega) hB ?_
  intro A' c' w' h1 h2 _
  exact h A' c' w' (Lib.hid (by unfold OwnS; rw [List.map_append]; exact h1)) (Lib.hid h2)
/-- a row of texts, made -/
theorem OwnS.made (w : World) (l : List ByteArray) (n : Nat) (hn : l.length = n) (hl : n ≤ 1000) {c : Array Value} (hc : c = (l.map Value.string).toArray) : OwnS (w.alloc (.cells c 9)) w.heap.size (some ⟨w.heap.size, 0, none⟩) n n l := by
  subst hn hc
  have := World.ownsRow_lit (e := 9) (size := 1) w (l.map Value.string).toArray l.length (Nat.le_refl _) (by unfold maxLen; omega) (by simp)
  simpa [OwnS, Own] using this
theorem Rd.madeS (w : World) (l : List ByteArray) {c : Array Value} (hc : c = (l.map Value.string).toArray) (g : Nat) (hg : w.heap.size = g) : Rd (w.alloc (.cells c 9)) (w.alloc (.cells c 9)).heap.size (some ⟨g, 0, none⟩) (l.map Value.string) := by
  subst hg hc
  exact Rd.ofBlock (heap_alloc_new w (.cells _ 9)) (by simp)


set_option maxRecDepth 10000 in
set_option maxHeartbeats 4000000 in
theorem encode_bad1 (A D : Option Addr) (c d N M : Nat) (add : List Fi) (del : List ByteArray) (nx fl : Nat) (w : World) (hA : Rd w w.heap.size A (fis add)) (hD : Rd w w.heap.size D (del.map Value.string)) (hN : add.length = N) (hM : del.length = M) (hn : N ≤ 100000) (hm : M ≤ 100000) (hbad : (add.any fun x => !may x) = true) :
    Calls Try.prog 22 #[.agg #[.slice A N c, .slice D M d, .int .u64 nx, .int .u64 fl]] w fun e w' => e = .returned (.tuple #[.string ⟨#[]⟩, .int .i64 1]) ∧ Below w.heap.size w w' := by
  have HA := Lib.hid hA
  have HD := Lib.hid hD
  have HN := Lib.hid hN
  have HM := Lib.hid hM
  have HX := Lib.hid (EBox.new 36 w A N c D M d nx fl)
  have HB0 := Lib.hid (below_al w (.cells #[.slice A N c, .slice D M d, .int .u64 nx, .int .u64 fl] 36))
  obtain ⟨W0, hW0⟩ : ∃ W0, w.alloc (.cells #[.slice A N c, .slice D M d, .int .u64 nx, .int .u64 fl] 36) = W0 := ⟨_, rfl⟩
  rw [hW0] at HX HB0
  have HCA := Lib.hid (fun W (hb : Below w.heap.size w W) => containsWrong A c add W ((HA.out.below hb).more hb.size) (by rw [HN.out]; omega))
  have HCD := Lib.hid (fun W (hb : Below w.heap.size w W) => containsBad D d M del W ((HD.out.below hb).more hb.size) HM.out (by unfold maxLen; omega))
  rw [HN.out] at HCA
  obtain ⟨c0, c1, c2, c3⟩ := HX.out.cells
  clear hA hD hN hM
  go_enter Try.func22, Try.ntmps22
  go_wp2_with (first
    | (go_at_call 28; refine (HCA.out _ HB0.out).mono ?_; rintro e w1 ⟨rfl, hb1⟩; simp only [hbad]; have HB1 := Lib.hid (HB0.out.trans (hb1.mono HB0.out.size)); obtain ⟨d0, d1, d2, d3⟩ := (HX.out.below hb1 HX.out.lt).cells))
  go_ret2
  exact ⟨rfl, HB1.out⟩
set_option maxRecDepth 10000 in
set_option maxHeartbeats 4000000 in
theorem encode_bad2 (A D : Option Addr) (c d N M : Nat) (add : List Fi) (del : List ByteArray) (nx fl : Nat) (w : World) (hA : Rd w w.heap.size A (fis add)) (hD : Rd w w.heap.size D (del.map Value.string)) (hN : add.length = N) (hM : del.length = M) (hn : N ≤ 100000) (hm : M ≤ 100000) (hbad : (add.any fun x => !may x) = false) (hbd : (del.any fun s => !nm s 59) = true) :
    Calls Try.prog 22 #[.agg #[.slice A N c, .slice D M d, .int .u64 nx, .int .u64 fl]] w fun e w' => e = .returned (.tuple #[.string ⟨#[]⟩, .int .i64 1]) ∧ Below w.heap.size w w' := by
  have HA := Lib.hid hA
  have HD := Lib.hid hD
  have HN := Lib.hid hN
  have HM := Lib.hid hM
  have HX := Lib.hid (EBox.new 36 w A N c D M d nx fl)
  have HB0 := Lib.hid (below_al w (.cells #[.slice A N c, .slice D M d, .int .u64 nx, .int .u64 fl] 36))
  obtain ⟨W0, hW0⟩ : ∃ W0, w.alloc (.cells #[.slice A N c, .slice D M d, .int .u64 nx, .int .u64 fl] 36) = W0 := ⟨_, rfl⟩
  rw [hW0] at HX HB0
  have HCA := Lib.hid (fun W (hb : Below w.heap.size w W) => containsWrong A c add W ((HA.out.below hb).more hb.size) (by rw [HN.out]; omega))
  have HCD := Lib.hid (fun W (hb : Below w.heap.size w W) => containsBad D d M del W ((HD.out.below hb).more hb.size) HM.out (by unfold maxLen; omega))
  rw [HN.out] at HCA
  obtain ⟨c0, c1, c2, c3⟩ := HX.out.cells
  clear hA hD hN hM
  go_enter Try.func22, Try.ntmps22
  go_wp2_with (first
    | (go_at_call 28; refine (HCA.out _ HB0.out).mono ?_; rintro e w1 ⟨rfl, hb1⟩; simp only [hbad]; have HB1 := Lib.hid (HB0.out.trans (hb1.mono HB0.out.size)); obtain ⟨d0, d1, d2, d3⟩ := (HX.out.below hb1 HX.out.lt).cells)
    | (go_at_call 46; refine (HCD.out _ HB1.out).mono ?_; rintro e w2 ⟨rfl, hb2⟩; simp only [hbd]; have HB2 := Lib.hid (HB1.out.trans (hb2.mono HB1.out.size))))
  go_ret2
  exact ⟨rfl, HB2.out⟩
set_option maxRecDepth 10000 in
set_option maxHeartbeats 4000000 in
theorem encode_wide1 (A D : Option Addr) (c d N M : Nat) (add : List Fi) (del : List ByteArray) (nx fl : Nat) (w : World) (hA : Rd w w.heap.size A (fis add)) (hD : Rd w w.heap.size D (del.map Value.string)) (hN : add.length = N) (hM : del.length = M) (hn : N ≤ 100000) (hm : M ≤ 100000) (hbad : (add.any fun x => !may x) = false) (hbd : (del.any fun s => !nm s 59) = false) (hw : 255 < N) :
    Calls Try.prog 22 #[.agg #[.slice A N c, .slice D M d, .int .u64 nx, .int .u64 fl]] w fun e w' => e = .returned (.tuple #[.string ⟨#[]⟩, .int .i64 71]) ∧ Below w.heap.size w w' := by
  have e1 : decide ((255 : Int) < (N : Int)) = true := decide_eq_true (by omega)
  have HA := Lib.hid hA
  have HD := Lib.hid hD
  have HN := Lib.hid hN
  have HM := Lib.hid hM
  have HX := Lib.hid (EBox.new 36 w A N c D M d nx fl)
  have HB0 := Lib.hid (below_al w (.cells #[.slice A N c, .slice D M d, .int .u64 nx, .int .u64 fl] 36))
  obtain ⟨W0, hW0⟩ : ∃ W0, w.alloc (.cells #[.slice A N c, .slice D M d, .int .u64 nx, .int .u64 fl] 36) = W0 := ⟨_, rfl⟩
  rw [hW0] at HX HB0
  have HCA := Lib.hid (fun W (hb : Below w.heap.size w W) => containsWrong A c add W ((HA.out.below hb).more hb.size) (by rw [HN.out]; omega))
  have HCD := Lib.hid (fun W (hb : Below w.heap.size w W) => containsBad D d M del W ((HD.out.below hb).more hb.size) HM.out (by unfold maxLen; omega))
  rw [HN.out] at HCA
  obtain ⟨c0, c1, c2, c3⟩ := HX.out.cells
  clear hA hD hN hM
  go_enter Try.func22, Try.ntmps22
  go_wp2_with (first
    | (go_at_call 28; refine (HCA.out _ HB0.out).mono ?_; rintro e w1 ⟨rfl, hb1⟩; simp only [hbad]; have HB1 := Lib.hid (HB0.out.trans (hb1.mono HB0.out.size)); have HX1 := Lib.hid (HX.out.below hb1 HX.out.lt); clear hb1 c0 c1 c2 c3; obtain ⟨d0, d1, d2, d3⟩ := HX1.out.cells)
    | (go_at_call 46; refine (HCD.out _ HB1.out).mono ?_; rintro e w2 ⟨rfl, hb2⟩; simp only [hbd]; have HB2 := Lib.hid (HB1.out.trans (hb2.mono HB1.out.size)); have HX2 := Lib.hid (HX1.out.below hb2 HX1.out.lt); clear hb2 d0 d1 d2 d3; obtain ⟨c0, c1, c2, c3⟩ := HX2.out.cells))
  go_ret2
  exact ⟨rfl, HB2.out⟩
set_option maxRecDepth 10000 in
set_option maxHeartbeats 4000000 in
theorem encode_wide2 (A D : Option Addr) (c d N M : Nat) (add : List Fi) (del : List ByteArray) (nx fl : Nat) (w : World) (hA : Rd w w.heap.size A (fis add)) (hD : Rd w w.heap.size D (del.map Value.string)) (hN : add.length = N) (hM : del.length = M) (hn : N ≤ 100000) (hm : M ≤ 100000) (hbad : (add.any fun x => !may x) = false) (hbd : (del.any fun s => !nm s 59) = false) (hw1 : N ≤ 255) (hw : 255 < M) :
    Calls Try.prog 22 #[.agg #[.slice A N c, .slice D M d, .int .u64 nx, .int .u64 fl]] w fun e w' => e = .returned (.tuple #[.string ⟨#[]⟩, .int .i64 71]) ∧ Below w.heap.size w w' := by
  have e1 : decide ((255 : Int) < (N : Int)) = false := decide_eq_false (by omega)
  have e2 : decide ((255 : Int) < (M : Int)) = true := decide_eq_true (by omega)
  have HA := Lib.hid hA
  have HD := Lib.hid hD
  have HN := Lib.hid hN
  have HM := Lib.hid hM
  have HX := Lib.hid (EBox.new 36 w A N c D M d nx fl)
  have HB0 := Lib.hid (below_al w (.cells #[.slice A N c, .slice D M d, .int .u64 nx, .int .u64 fl] 36))
  obtain ⟨W0, hW0⟩ : ∃ W0, w.alloc (.cells #[.slice A N c, .slice D M d, .int .u64 nx, .int .u64 fl] 36) = W0 := ⟨_, rfl⟩
  rw [hW0] at HX HB0
  have HCA := Lib.hid (fun W (hb : Below w.heap.size w W) => containsWrong A c add W ((HA.out.below hb).more hb.size) (by rw [HN.out]; omega))
  have HCD := Lib.hid (fun W (hb : Below w.heap.size w W) => containsBad D d M del W ((HD.out.below hb).more hb.size) HM.out (by unfold maxLen; omega))
  rw [HN.out] at HCA
  obtain ⟨c0, c1, c2, c3⟩ := HX.out.cells
  clear hA hD hN hM
  go_enter Try.func22, Try.ntmps22
  go_wp2_with (first
    | (go_at_call 28; refine (HCA.out _ HB0.out).mono ?_; rintro e w1 ⟨rfl, hb1⟩; simp only [hbad]; have HB1 := Lib.hid (HB0.out.trans (hb1.mono HB0.out.size)); have HX1 := Lib.hid (HX.out.below hb1 HX.out.lt); clear hb1 c0 c1 c2 c3; obtain ⟨d0, d1, d2, d3⟩ := HX1.out.cells)
    | (go_at_call 46; refine (HCD.out _ HB1.out).mono ?_; rintro e w2 ⟨rfl, hb2⟩; simp only [hbd]; have HB2 := Lib.hid (HB1.out.trans (hb2.mono HB1.out.size)); have HX2 := Lib.hid (HX1.out.below hb2 HX1.out.lt); clear hb2 d0 d1 d2 d3; obtain ⟨c0, c1, c2, c3⟩ := HX2.out.cells))
  go_ret2
  exact ⟨rfl, HB2.out⟩
end Go.Proofs.Ytaeemeoffnhgfaa

namespace Go.Proofs.Ytaeemeoffnhgfaa
open Go.RowKit
attribute [local go_sem ↓] Go.wp_at_zero Go.wp_at_succ

theorem wrap_nat (n : Nat) (h : n < 18446744073709551616) : IntKind.u64.wrap (n : Int) = (n : Int) := by
  rw [show IntKind.u64.wrap (n : Int) = (n : Int) % 18446744073709551616 from rfl, Int.emod_eq_of_lt (by omega) (by omega)]
theorem take_flat {α β : Type} {f : α → List β} {l : List α} {k : Nat} (hk : k < l.length) : (l.take (k + 1)).flatMap f = (l.take k).flatMap f ++ f l[k] := by
  rw [List.take_succ_eq_append_getElem hk, List.flatMap_append]
  simp
theorem take_mapS {α β : Type} {f : α → β} {l : List α} {k : Nat} (hk : k < l.length) : (l.take (k + 1)).map f = (l.take k).map f ++ [f l[k]] := by
  rw [List.take_succ_eq_append_getElem hk, List.map_append]
  simp
theorem OwnS.le {w : World} {B n c : Nat} {A : Option Addr} {l : List ByteArray} (h : OwnS w B A n c l) : n ≤ c := by
  obtain ⟨h1, h2⟩ := h
  rcases h2 with ⟨h3, _⟩ | ⟨g, cap, cur, h3, _, _, h4, _⟩
  · injection h3 with _ h3 _
    omega
  · injection h3 with _ h3 h5
    omega
theorem join_own {w : World} {B n c : Nat} {A : Option Addr} {l : List ByteArray} (h : OwnS w B A n c l) (h0 : 0 < n) (hn : n ≤ 100000) (hs : (cat l).size ≤ 100000000) :
    Calls Try.prog 50 #[.slice A n c, .string ⟨#[]⟩] w fun e w' => e = .returned (.string (cat l)) ∧ Below w.heap.size w w' := by
  have hl := h.len
  have hcap : n ≤ c := OwnS.le h
  obtain ⟨g, rfl, hg, hgl, hc⟩ := Own.at_ h h0
  subst hl
  have hj := strings_Join g 0 c l ⟨#[]⟩ w (fun j x hx => by
    have hj := (List.getElem?_eq_some_iff.1 hx).1
    have := (hc j (by simpa using hj)).1
    rw [Nat.zero_add, this]
    simp only [List.getElem_map]
    rw [(List.getElem?_eq_some_iff.1 hx).2]) hgl (by omega) hcap (by rw [join_len]; omega)
  refine hj.mono ?_
  rintro e w' ⟨rfl, hb⟩
  exact ⟨by rw [join_cat], hb⟩


set_option maxRecDepth 10000 in
set_option maxHeartbeats 16000000 in
theorem encode_ok (A D : Option Addr) (c d N M : Nat) (add : List Fi) (del : List ByteArray) (nx fl : Nat) (w : World) (hA : Rd w w.heap.size A (fis add)) (hD : Rd w w.heap.size D (del.map Value.string)) (hN : add.length = N) (hM : del.length = M) (hn : N ≤ 255) (hm : M ≤ 255) (hbad : (add.any fun x => !may x) = false) (hbd : (del.any fun s => !nm s 59) = false) :
    Calls Try.prog 22 #[.agg #[.slice A N c, .slice D M d, .int .u64 nx, .int .u64 fl]] w fun e w' => e = .returned (.tuple #[.string (encB nx fl add del), .int .i64 0]) ∧ Below w.heap.size w w' := by
  have hbe : badE add del = false := by unfold badE; rw [hbad, hbd]; rfl
  have HBE := Lib.hid hbe
  have HMAY := Lib.hid (badE_false hbe)
  clear hbe
  have e1 : decide ((255 : Int) < (N : Int)) = false := decide_eq_false (by omega)
  have e2 : decide ((255 : Int) < (M : Int)) = false := decide_eq_false (by omega)
  have hwN := wrap_nat N (by omega)
  have hwM := wrap_nat M (by omega)
  have HA := Lib.hid hA
  have HD := Lib.hid hD
  have HN := Lib.hid hN
  have HM := Lib.hid hM
  have HX := Lib.hid (EBox.new 36 w A N c D M d nx fl)
  have HB0 := Lib.hid (below_al w (.cells #[.slice A N c, .slice D M d, .int .u64 nx, .int .u64 fl] 36))
  obtain ⟨W0, hW0⟩ : ∃ W0, w.alloc (.cells #[.slice A N c, .slice D M d, .int .u64 nx, .int .u64 fl] 36) = W0 := ⟨_, rfl⟩
  rw [hW0] at HX HB0
  have HCA := Lib.hid (fun W (hb : Below w.heap.size w W) => containsWrong A c add W ((HA.out.below hb).more hb.size) (by rw [HN.out]; omega))
  have HCD := Lib.hid (fun W (hb : Below w.heap.size w W) => containsBad D d M del W ((HD.out.below hb).more hb.size) HM.out (by unfold maxLen; omega))
  rw [HN.out] at HCA
  obtain ⟨c0, c1, c2, c3⟩ := HX.out.cells
  clear hA hD hN hM
  go_enter Try.func22, Try.ntmps22
  go_wp2_with (first
    | (go_at_call 28; refine (HCA.out _ HB0.out).mono ?_; rintro e w1 ⟨rfl, hb1⟩; simp only [hbad]; have HB1 := Lib.hid (HB0.out.trans (hb1.mono HB0.out.size)); have HX1 := Lib.hid (HX.out.below hb1 HX.out.lt); clear hb1 c0 c1 c2 c3; obtain ⟨d0, d1, d2, d3⟩ := HX1.out.cells)
    | (go_at_call 46; refine (HCD.out _ HB1.out).mono ?_; rintro e w2 ⟨rfl, hb2⟩; simp only [hbd]; have HB2 := Lib.hid (HB1.out.trans (hb2.mono HB1.out.size)); have HX2 := Lib.hid (HX1.out.below hb2 HX1.out.lt); clear hb2 d0 d1 d2 d3; obtain ⟨c0, c1, c2, c3⟩ := HX2.out.cells))
  clear hbad hbd HCA HCD c0 c1 c2 c3 e1 e2
  obtain ⟨CC, hCD⟩ : ∃ CC : World → Prop, ∀ W, CC W ↔ Below w2.heap.size w2 W := ⟨fun W => Below w2.heap.size w2 W, fun W => Iff.rfl⟩
  have hmk : ∀ W, Below w2.heap.size w2 W → W.cell? ⟨w.heap.size, 0, none⟩ = some (.slice A N c) ∧ W.cell? ⟨w.heap.size, 2, none⟩ = some (.int .u64 nx) ∧ W.cell? ⟨w.heap.size, 3, none⟩ = some (.int .u64 fl) ∧ CC W := fun W hb => ⟨(HX2.out.below hb HX2.out.lt).cells.1, (HX2.out.below hb HX2.out.lt).cells.2.2.1, (HX2.out.below hb HX2.out.lt).cells.2.2.2, (hCD W).2 hb⟩
  have HB := Lib.hid ((Below.refl w2.heap.size w2).drew)
  have HC := hmk _ HB.out
  refine region_wz (fun W => W.cell? ⟨w.heap.size, 0, none⟩ = some (.slice A N c) ∧ W.cell? ⟨w.heap.size, 2, none⟩ = some (.int .u64 nx) ∧ W.cell? ⟨w.heap.size, 3, none⟩ = some (.int .u64 fl) ∧ CC W) none (by kernel_rfl) ?_
  apply WZ.take (i := 0) (some 29) rfl rfl (by kernel_rfl) (by kernel_rfl) (by kernel_rfl) (calm_panic _) (by kernel_rfl)
  case hy => (refine .inl ⟨by kernel_rfl, fun W hC => ?_⟩; (try dsimp only at hC); go_simp; rfl)
  case hC => exact HC
  case ha => (simp only [Act.put, List.setIfInBounds_toArray, List.set_cons_zero, List.set_cons_succ]; rfl)
  apply WZ.take (i := 1) (some 30) rfl rfl (by kernel_rfl) (by kernel_rfl) (by kernel_rfl) (calm_panic _) (by kernel_rfl)
  case hy => (refine .inl ⟨by kernel_rfl, fun W hC => ?_⟩; (try dsimp only at hC); go_simp; rfl)
  case hC => exact HC
  case ha => (simp only [Act.put, List.setIfInBounds_toArray, List.set_cons_zero, List.set_cons_succ]; rfl)
  apply WZ.take (i := 3) (some 32) rfl rfl (by kernel_rfl) (by kernel_rfl) (by kernel_rfl) (calm_panic _) (by kernel_rfl)
  case hy => (refine .inl ⟨by kernel_rfl, fun W hC => ?_⟩; (try dsimp only at hC); go_simp; rfl)
  case hC => exact HC
  case ha => (simp only [Act.put, List.setIfInBounds_toArray, List.set_cons_zero, List.set_cons_succ]; rfl)
  apply WZ.take (i := 4) (some 33) rfl rfl (by kernel_rfl) (by kernel_rfl) (by kernel_rfl) (calm_panic _) (by kernel_rfl)
  case hy => (refine .inl ⟨by kernel_rfl, fun W hC => ?_⟩; (try dsimp only at hC); go_simp; rfl)
  case hC => exact HC
  case ha => (simp only [Act.put, List.setIfInBounds_toArray, List.set_cons_zero, List.set_cons_succ]; rfl)
  apply WZ.take (i := 6) (some 35) rfl rfl (by kernel_rfl) (by kernel_rfl) (by kernel_rfl) (calm_panic _) (by kernel_rfl)
  case hy => (refine .inl ⟨by kernel_rfl, fun W hC => ?_⟩; (try dsimp only at hC); go_simp; rfl)
  case hC => exact HC
  case ha => (simp only [Act.put, List.setIfInBounds_toArray, List.set_cons_zero, List.set_cons_succ]; rfl)
  apply WZ.take (i := 7) (some 36) rfl rfl (by kernel_rfl) (by kernel_rfl) (by kernel_rfl) (calm_panic _) (by kernel_rfl)
  case hy => (refine .inl ⟨by kernel_rfl, fun W hC => ?_⟩; (try dsimp only at hC); go_simp; rfl)
  case hC => exact HC
  case ha => (simp only [Act.put, List.setIfInBounds_toArray, List.set_cons_zero, List.set_cons_succ]; rfl)
  apply WZ.take (i := 8) (some 37) rfl rfl (by kernel_rfl) (by kernel_rfl) (by kernel_rfl) (calm_panic _) (by kernel_rfl)
  case hy => (refine .inl ⟨by kernel_rfl, fun W hC => ?_⟩; (try dsimp only at hC); go_simp; rfl)
  case hC => exact HC
  case ha => (simp only [Act.put, List.setIfInBounds_toArray, List.set_cons_zero, List.set_cons_succ]; rfl)
  apply WZ.take (i := 9) (some 38) rfl rfl (by kernel_rfl) (by kernel_rfl) (by kernel_rfl) (calm_panic _) (by kernel_rfl)
  case hy => (refine .inl ⟨by kernel_rfl, fun W hC => ?_⟩; (try dsimp only at hC); go_simp; rfl)
  case hC => exact HC
  case ha => (simp only [Act.put, List.setIfInBounds_toArray, List.set_cons_zero, List.set_cons_succ]; rfl)
  -- 2
  refine WZ.one (i := 2) rfl (by kernel_rfl) ?_
  conv => arg 4; arg 1; whnf
  go_wp2_with (go_at_call 48; refine (number8 nx _).mono ?_; rintro e w3 ⟨rfl, hb9⟩)
  have HB9 := Lib.hid (HB.out.trans (hb9.mono HB.out.size))
  clear HB HC hb9
  have HB := HB9
  clear HB9
  have HC := hmk _ HB.out
  refine ⟨HC, ?_⟩
  -- 5
  refine WZ.one (i := 5) rfl (by kernel_rfl) ?_
  conv => arg 4; arg 1; whnf
  go_wp2_with (go_at_call 48; refine (number8 fl _).mono ?_; rintro e w4 ⟨rfl, hb9⟩)
  have HB9 := Lib.hid (HB.out.trans (hb9.mono HB.out.size))
  clear HB HC hb9
  have HB := HB9
  clear HB9
  have HC := hmk _ HB.out
  refine ⟨HC, ?_⟩
  -- 10
  refine WZ.one (i := 10) rfl (by kernel_rfl) ?_
  conv => arg 4; arg 1; whnf
  go_wp2_with (go_at_call 48; refine (number1 N _).mono ?_; rintro e w5 ⟨rfl, hb9⟩)
  have HB9 := Lib.hid (HB.out.trans (hb9.mono HB.out.size))
  clear HB HC hb9
  have HB := HB9
  clear HB9
  have HC := hmk _ HB.out
  refine ⟨HC, ?_⟩
  -- 11
  refine WZ.one (i := 11) rfl (by kernel_rfl) ?_
  conv => arg 4; arg 1; whnf
  go_wp2_with fail
  have HO := Lib.hid (show OwnS (w5.alloc (.cells #[.string (nb nx 8), .string (nb fl 8), .string (nb N 1)] 9)) (w.heap.size + 1) (some ⟨w5.heap.size, 0, none⟩) 3 3 (headE nx fl N ++ (add.take 0).flatMap fiParts) from Own.lower (OwnS.made w5 (headE nx fl N) 3 rfl (by omega) rfl) (Nat.le_trans HX2.out.lt HB.out.size))
  have hb9 := below_al w5 (.cells #[.string (nb nx 8), .string (nb fl 8), .string (nb N 1)] 9)
  have HB9 := Lib.hid (HB.out.trans (hb9.mono HB.out.size))
  clear HB HC hb9
  have HB := HB9
  clear HB9
  have HC := hmk _ HB.out
  refine ⟨HC, ?_⟩
  apply WZ.take (i := 12) (some 4) rfl rfl (by kernel_rfl) (by kernel_rfl) (by kernel_rfl) (calm_panic _) (by kernel_rfl)
  case hy => (refine .inl ⟨by kernel_rfl, fun W hC => ?_⟩; (try dsimp only at hC); go_simp; rfl)
  case hC => exact HC
  case ha => (simp only [Act.put, List.setIfInBounds_toArray, List.set_cons_zero, List.set_cons_succ]; rfl)
  refine WZ.done (by kernel_rfl) ?_ _
  simp only [Calm, Exit.then]
  have HX6 := Lib.hid (HX2.out.below HB.out HX2.out.lt)
  have HB6 := Lib.hid (HB2.out.trans (HB.out.mono HB2.out.size))
  obtain ⟨c0, c1, c2, c3⟩ := HX6.out.cells
  clear HC hmk hCD
  go_wp2
  clear c0 c1 c2 c3
  go_loopw [4, 44] (fun v4 v44 wr => ∃ (k n : Nat) (Ao : Option Addr) (co : Nat), v4 = .slice Ao n co ∧ v44 = .int .i64 (k : Int) ∧ k ≤ N ∧ Hid (n = 3 + 5 * k) ∧ Hid (OwnS wr (w.heap.size + 1) Ao n co (headE nx fl N ++ (add.take k).flatMap fiParts)) ∧ Hid (Below w.heap.size w wr) ∧ Hid (EBox 36 wr w.heap.size A N c D M d nx fl)) (fun _ v44 _ => N - (intOf v44).toNat)
  case atStart => exact ⟨0, 3, _, 3, rfl, rfl, Nat.zero_le _, Lib.hid rfl, HO, HB6, HX6⟩
  case round =>
    clear HO HB6 HX6 HX2 HB2
    obtain ⟨k, n, Ao, co, rfl, rfl, hk, HNK, HO, HBW, HXW⟩ := hrel
    have hn6 : n ≤ 2000 := by have := HNK.out; omega
    rename World => wr
    by_cases hlt : k < N
    · have e1 : decide ((k : Int) < (N : Int)) = true := decide_eq_true (by omega)
      have k1 : (0 : Int) ≤ (k : Int) := by omega
      have k2 : (k : Int) < (N : Int) := by omega
      have hkl : k < add.length := by rw [HN.out]; exact hlt
      obtain ⟨b, o, rfl, hr⟩ := rd_elem (HA.out.below HBW.out) hkl
      have htk := take_flat (f := fiParts) hkl
      have hok := FiOk.of (HMAY.out.1 _ (List.getElem_mem hkl))
      obtain ⟨x, hx⟩ : ∃ x, add[k] = x := ⟨_, rfl⟩
      rw [hx] at hr htk hok
      obtain ⟨lv, hlv, hl2⟩ := hok.lv
      obtain ⟨mn, hmn, hm1, hm2⟩ := hok.mn
      have s1 := hok.nm
      have s2 := hok.lo
      have s3 := hok.hi
      have hwl := wrap_nat lv (by omega)
      have hwm := wrap_nat mn (by omega)
      have hfp : fiParts x = [nb lv 1, sh x.name, sh x.low, sh x.high, nb mn 2] := by unfold fiParts; rw [hlv, hmn]; rfl
      rw [hfp] at htk
      have HTK := Lib.hid htk
      have HR := Lib.hid hr
      have HLV := Lib.hid (And.intro hlv hmn)
      clear hr hx htk hok hlv hmn hfp
      go_wp2_with (first
        | (show wpList _ _ _ ({ dst := some 47, op := Op.load _ _, type := _, pos := _, after := _, guard := _ } :: _) _ _; refine wpList_load_mid rfl 23 (.tmp 46) rfl b (o + k * 5) rfl x.vals _ HR.out Try.underlying23 rfl (by kernel_rfl) ?_)
        | (show wpList _ _ _ ({ dst := none, op := Op.store _ (Operand.tmp 6) _, type := _, pos := _, after := _, guard := _ } :: _) _ _; refine wpList_store_mid rfl 23 (.tmp 6) (.tmp 47) rfl wr.heap.size 0 x.vals.toArray rfl rfl (FBox.there_made _ _ _ _ _ _ _) (by kernel_rfl) (all_oneCell_toArray (Fi.one x)) ?_; refine FBox.madeW 23 wr _ _ _ _ _ x ?_; intro w6 HG6 HB6))
      have HOW := Lib.hid (OwnS.below HO.out HB6.out)
      have HBX := Lib.hid (HBW.out.trans (HB6.out.mono HBW.out.size))
      have HXX := Lib.hid (HXW.out.below HB6.out HXW.out.lt)
      have hcell : ∀ W, Hid (FBox 23 W wr.heap.size x) → W.cell? ⟨wr.heap.size, 0, none⟩ = some (.int .i64 lv) ∧ W.cell? ⟨wr.heap.size, 1, none⟩ = some (.string x.name) ∧ W.cell? ⟨wr.heap.size, 2, none⟩ = some (.string x.low) ∧ W.cell? ⟨wr.heap.size, 3, none⟩ = some (.string x.high) ∧ W.cell? ⟨wr.heap.size, 4, none⟩ = some (.int .i64 mn) := fun W hb => by
        obtain ⟨h0, h1, h2, h3, h4⟩ := hb.out.cells
        rw [HLV.out.1] at h0
        rw [HLV.out.2] at h4
        exact ⟨h0, h1, h2, h3, h4⟩
      have hmk := fun W (hb : Below w6.heap.size w6 W) => hcell W (Lib.hid (HG6.out.below hb HG6.out.lt))
      have HNE2 : Hid (blk Ao ≠ some w.heap.size) := Lib.hid fun e => by have := (Own.lt HO.out _ e).1; omega
      have HNE : Hid (blk Ao ≠ some wr.heap.size) := Lib.hid fun e => by have := (Own.lt HO.out _ e).2; omega
      have HB := Lib.hid ((Below.refl w6.heap.size w6).drew)
      have HC := hmk _ HB.out
      clear HO HBW HXW
      refine region_wz (fun W => W.cell? ⟨wr.heap.size, 0, none⟩ = some (.int .i64 lv) ∧ W.cell? ⟨wr.heap.size, 1, none⟩ = some (.string x.name) ∧ W.cell? ⟨wr.heap.size, 2, none⟩ = some (.string x.low) ∧ W.cell? ⟨wr.heap.size, 3, none⟩ = some (.string x.high) ∧ W.cell? ⟨wr.heap.size, 4, none⟩ = some (.int .i64 mn)) none (by kernel_rfl) ?_
      apply WZ.take (i := 0) (some 48) rfl rfl (by kernel_rfl) (by kernel_rfl) (by kernel_rfl) (calm_panic _) (by kernel_rfl)
      case hy => (refine .inl ⟨by kernel_rfl, fun W hC => ?_⟩; (try dsimp only at hC); go_simp; rfl)
      case hC => exact HC
      case ha => (simp only [Act.put, List.setIfInBounds_toArray, List.set_cons_zero, List.set_cons_succ]; rfl)
      apply WZ.take (i := 1) (some 49) rfl rfl (by kernel_rfl) (by kernel_rfl) (by kernel_rfl) (calm_panic _) (by kernel_rfl)
      case hy => (refine .inl ⟨by kernel_rfl, fun W hC => ?_⟩; (try dsimp only at hC); go_simp; rfl)
      case hC => exact HC
      case ha => (simp only [Act.put, List.setIfInBounds_toArray, List.set_cons_zero, List.set_cons_succ]; rfl)
      apply WZ.take (i := 2) (some 50) rfl rfl (by kernel_rfl) (by kernel_rfl) (by kernel_rfl) (calm_panic _) (by kernel_rfl)
      case hy => (refine .inl ⟨by kernel_rfl, fun W hC => ?_⟩; (try dsimp only at hC); go_simp; rfl)
      case hC => exact HC
      case ha => (simp only [Act.put, List.setIfInBounds_toArray, List.set_cons_zero, List.set_cons_succ]; rfl)
      apply WZ.take (i := 3) (some 51) rfl rfl (by kernel_rfl) (by kernel_rfl) (by kernel_rfl) (calm_panic _) (by kernel_rfl)
      case hy => (refine .inl ⟨by kernel_rfl, fun W hC => ?_⟩; (try dsimp only at hC); go_simp; rfl)
      case hC => exact HC
      case ha => (simp only [Act.put, List.setIfInBounds_toArray, List.set_cons_zero, List.set_cons_succ]; rfl)
      apply WZ.take (i := 5) (some 53) rfl rfl (by kernel_rfl) (by kernel_rfl) (by kernel_rfl) (calm_panic _) (by kernel_rfl)
      case hy => (refine .inl ⟨by kernel_rfl, fun W hC => ?_⟩; (try dsimp only at hC); go_simp; rfl)
      case hC => exact HC
      case ha => (simp only [Act.put, List.setIfInBounds_toArray, List.set_cons_zero, List.set_cons_succ]; rfl)
      apply WZ.take (i := 6) (some 54) rfl rfl (by kernel_rfl) (by kernel_rfl) (by kernel_rfl) (calm_panic _) (by kernel_rfl)
      case hy => (refine .inl ⟨by kernel_rfl, fun W hC => ?_⟩; (try dsimp only at hC); go_simp; rfl)
      case hC => exact HC
      case ha => (simp only [Act.put, List.setIfInBounds_toArray, List.set_cons_zero, List.set_cons_succ]; rfl)
      apply WZ.take (i := 8) (some 56) rfl rfl (by kernel_rfl) (by kernel_rfl) (by kernel_rfl) (calm_panic _) (by kernel_rfl)
      case hy => (refine .inl ⟨by kernel_rfl, fun W hC => ?_⟩; (try dsimp only at hC); go_simp; rfl)
      case hC => exact HC
      case ha => (simp only [Act.put, List.setIfInBounds_toArray, List.set_cons_zero, List.set_cons_succ]; rfl)
      apply WZ.take (i := 9) (some 57) rfl rfl (by kernel_rfl) (by kernel_rfl) (by kernel_rfl) (calm_panic _) (by kernel_rfl)
      case hy => (refine .inl ⟨by kernel_rfl, fun W hC => ?_⟩; (try dsimp only at hC); go_simp; rfl)
      case hC => exact HC
      case ha => (simp only [Act.put, List.setIfInBounds_toArray, List.set_cons_zero, List.set_cons_succ]; rfl)
      apply WZ.take (i := 11) (some 59) rfl rfl (by kernel_rfl) (by kernel_rfl) (by kernel_rfl) (calm_panic _) (by kernel_rfl)
      case hy => (refine .inl ⟨by kernel_rfl, fun W hC => ?_⟩; (try dsimp only at hC); go_simp; rfl)
      case hC => exact HC
      case ha => (simp only [Act.put, List.setIfInBounds_toArray, List.set_cons_zero, List.set_cons_succ]; rfl)
      apply WZ.take (i := 12) (some 60) rfl rfl (by kernel_rfl) (by kernel_rfl) (by kernel_rfl) (calm_panic _) (by kernel_rfl)
      case hy => (refine .inl ⟨by kernel_rfl, fun W hC => ?_⟩; (try dsimp only at hC); go_simp; rfl)
      case hC => exact HC
      case ha => (simp only [Act.put, List.setIfInBounds_toArray, List.set_cons_zero, List.set_cons_succ]; rfl)
      apply WZ.take (i := 14) (some 62) rfl rfl (by kernel_rfl) (by kernel_rfl) (by kernel_rfl) (calm_panic _) (by kernel_rfl)
      case hy => (refine .inl ⟨by kernel_rfl, fun W hC => ?_⟩; (try dsimp only at hC); go_simp; rfl)
      case hC => exact HC
      case ha => (simp only [Act.put, List.setIfInBounds_toArray, List.set_cons_zero, List.set_cons_succ]; rfl)
      apply WZ.take (i := 15) (some 63) rfl rfl (by kernel_rfl) (by kernel_rfl) (by kernel_rfl) (calm_panic _) (by kernel_rfl)
      case hy => (refine .inl ⟨by kernel_rfl, fun W hC => ?_⟩; (try dsimp only at hC); go_simp; rfl)
      case hC => exact HC
      case ha => (simp only [Act.put, List.setIfInBounds_toArray, List.set_cons_zero, List.set_cons_succ]; rfl)
      apply WZ.take (i := 16) (some 64) rfl rfl (by kernel_rfl) (by kernel_rfl) (by kernel_rfl) (calm_panic _) (by kernel_rfl)
      case hy => (refine .inl ⟨by kernel_rfl, fun W hC => ?_⟩; (try dsimp only at hC); go_simp; rfl)
      case hC => exact HC
      case ha => (simp only [Act.put, List.setIfInBounds_toArray, List.set_cons_zero, List.set_cons_succ]; rfl)
      -- 4
      refine WZ.one (i := 4) rfl (by kernel_rfl) ?_
      conv => arg 4; arg 1; whnf
      go_wp2_with (go_at_call 48; refine (number1 lv _).mono ?_; rintro e w7 ⟨rfl, hb9⟩)
      have HB9 := Lib.hid (HB.out.trans (hb9.mono HB.out.size))
      clear HB HC hb9
      have HB := HB9
      clear HB9
      have HC := hmk _ HB.out
      refine ⟨HC, ?_⟩
      -- 7
      refine WZ.one (i := 7) rfl (by kernel_rfl) ?_
      conv => arg 4; arg 1; whnf
      go_wp2_with (go_at_call 49; refine (short_any x.name _ (by omega)).mono ?_; rintro e w8 ⟨rfl, hb9⟩)
      have HB9 := Lib.hid (HB.out.trans (hb9.mono HB.out.size))
      clear HB HC hb9
      have HB := HB9
      clear HB9
      have HC := hmk _ HB.out
      refine ⟨HC, ?_⟩
      -- 10
      refine WZ.one (i := 10) rfl (by kernel_rfl) ?_
      conv => arg 4; arg 1; whnf
      go_wp2_with (go_at_call 49; refine (short_any x.low _ (by omega)).mono ?_; rintro e w9 ⟨rfl, hb9⟩)
      have HB9 := Lib.hid (HB.out.trans (hb9.mono HB.out.size))
      clear HB HC hb9
      have HB := HB9
      clear HB9
      have HC := hmk _ HB.out
      refine ⟨HC, ?_⟩
      -- 13
      refine WZ.one (i := 13) rfl (by kernel_rfl) ?_
      conv => arg 4; arg 1; whnf
      go_wp2_with (go_at_call 49; refine (short_any x.high _ (by omega)).mono ?_; rintro e w10 ⟨rfl, hb9⟩)
      have HB9 := Lib.hid (HB.out.trans (hb9.mono HB.out.size))
      clear HB HC hb9
      have HB := HB9
      clear HB9
      have HC := hmk _ HB.out
      refine ⟨HC, ?_⟩
      -- 17
      refine WZ.one (i := 17) rfl (by kernel_rfl) ?_
      conv => arg 4; arg 1; whnf
      go_wp2_with (go_at_call 48; refine (number2 mn _).mono ?_; rintro e w11 ⟨rfl, hb9⟩)
      have HB9 := Lib.hid (HB.out.trans (hb9.mono HB.out.size))
      clear HB HC hb9
      have HB := HB9
      clear HB9
      have HC := hmk _ HB.out
      refine ⟨HC, ?_⟩
      -- 18
      refine WZ.one (i := 18) rfl (by kernel_rfl) ?_
      conv => arg 4; arg 1; whnf
      go_wp2_with fail
      have HR12 := Lib.hid (Rd.madeS w11 [nb lv 1, sh x.name, sh x.low, sh x.high, nb mn 2] rfl w11.heap.size rfl)
      have hb9 := below_al w11 (.cells #[.string (nb lv 1), .string (sh x.name), .string (sh x.low), .string (sh x.high), .string (nb mn 2)] 9)
      have HB9 := Lib.hid (HB.out.trans (hb9.mono HB.out.size))
      clear HB HC hb9
      have HB := HB9
      clear HB9
      have HC := hmk _ HB.out
      refine ⟨HC, ?_⟩
      -- 19
      refine WZ.one (i := 19) rfl (by kernel_rfl) ?_
      conv => arg 4; arg 1; whnf
      go_wp2_with (at_builtin; go_loud (refine texts_app rfl _ _ rfl (w.heap.size + 1) Ao n co (n + 5) _ [nb lv 1, sh x.name, sh x.low, sh x.high, nb mn 2] rfl (OwnS.below HOW.out HB.out) (some ⟨w11.heap.size, 0, none⟩) 5 5 rfl HR12.out rfl rfl (by omega) (by have := HB.out.size; have := HXX.out.lt; omega) ?_); intro A8 c8 w12 HO8 HG8; have HB8 := Lib.hid (Own.grow (OwnS.below HOW.out HB.out) (HBX.out.trans (HB.out.mono HBX.out.size)) (by have := HB.out.size; have := HBX.out.size; omega) (Nat.le_succ _) HG8.out))
      have HC9 := hcell _ (Lib.hid (FBox.keep (HG6.out.below HB.out HG6.out.lt) (HG8.out.block _ (Nat.lt_of_lt_of_le HG6.out.lt HB.out.size) (fun e => HNE.out e.symm))))
      clear HC
      have HC := HC9
      refine ⟨HC, ?_⟩
      apply WZ.take (i := 20) (some 4) rfl rfl (by kernel_rfl) (by kernel_rfl) (by kernel_rfl) (calm_panic _) (by kernel_rfl)
      case hy => (refine .inl ⟨by kernel_rfl, fun W hC => ?_⟩; (try dsimp only at hC); go_simp; rfl)
      case hC => exact HC
      case ha => (simp only [Act.put, List.setIfInBounds_toArray, List.set_cons_zero, List.set_cons_succ]; rfl)
      refine WZ.done (by kernel_rfl) ?_ _
      simp only [Calm, Exit.then]
      have hx8 := (HXX.out.below HB.out HXX.out.lt)
      have HXN := Lib.hid (show EBox 36 w12 w.heap.size _ _ _ _ _ _ _ _ from (HG8.out.block _ (Nat.lt_of_lt_of_le HXX.out.lt HB.out.size) (fun e => HNE2.out e.symm)).trans hx8)
      have ho8 := HO8.out
      rw [List.append_assoc, ← HTK.out] at ho8
      have HO9 := Lib.hid ho8
      clear HC hx8 ho8 HO8
      go_wp2
      exact ⟨⟨k + 1, n + 5, A8, c8, rfl, by first | rfl | go_num, by omega, Lib.hid (by have := HNK.out; omega), HO9, HB8, HXN⟩, by simp [intOf]; omega⟩
    · have e1 : decide ((k : Int) < (N : Int)) = false := decide_eq_false (by omega)
      have hkN : k = N := by omega
      have ho := HO.out
      rw [List.take_of_length_le (by rw [HN.out]; omega)] at ho
      have HNN := Lib.hid (show n = 3 + 5 * N by rw [← hkN]; exact HNK.out)
      have HO1 := Lib.hid ho
      obtain ⟨c0, c1, c2, c3⟩ := HXW.out.cells
      clear ho hkN HO HNK
      go_wp2_with (first
        | (go_at_call 48; refine (number1 M _).mono ?_; rintro e w13 ⟨rfl, hb13⟩; have HB13 := Lib.hid hb13; have HX13 := Lib.hid (HXW.out.below hb13 HXW.out.lt); clear hb13 c0 c1 c2 c3)
        | (at_builtin; go_loud (refine texts_app rfl _ _ rfl (w.heap.size + 1) Ao n co (n + 1) _ [nb M 1] rfl (OwnS.below (OwnS.below HO1.out HB13.out) (below_al _ _)) (some ⟨w13.heap.size, 0, none⟩) 1 1 rfl (Rd.madeS _ [nb M 1] rfl _ rfl) rfl rfl (by omega) (by rw [World.size_alloc]; have := HX13.out.lt; omega) ?_); intro A8 c8 w14 HO8 HG8; have HBA := Lib.hid ((HBW.out.trans (HB13.out.mono HBW.out.size)).trans ((below_al w13 (.cells #[.string (nb M 1)] 9)).mono (Nat.le_of_lt HX13.out.lt))); have HB14 := Lib.hid (Own.grow (OwnS.below (OwnS.below HO1.out HB13.out) (below_al _ _)) HBA.out (by rw [World.size_alloc]; have := HX13.out.lt; omega) (Nat.le_succ _) HG8.out); have hne : blk Ao ≠ some w.heap.size := (fun e => by have := (Own.lt HO1.out _ e).1; omega); obtain ⟨-, c1, -, -⟩ := EBox.cells (show EBox 36 w14 w.heap.size _ _ _ _ _ _ _ _ from (HG8.out.block _ (by rw [World.size_alloc]; have := HX13.out.lt; omega) (fun e => hne e.symm)).trans (HX13.out.below (below_al _ _) HX13.out.lt)); clear hne))
      go_loopw [4, 80] (fun v4 v80 wq => ∃ (j m : Nat) (Ap : Option Addr) (cp : Nat), v4 = .slice Ap m cp ∧ v80 = .int .i64 (j : Int) ∧ j ≤ M ∧ Hid (m = 4 + 5 * N + j) ∧ Hid (OwnS wq (w.heap.size + 1) Ap m cp (headE nx fl N ++ add.flatMap fiParts ++ [nb M 1] ++ (del.take j).map sh)) ∧ Hid (Below w.heap.size w wq) ∧ w.heap.size + 1 ≤ wq.heap.size) (fun _ v80 _ => M - (intOf v80).toNat)
      case atStart => exact ⟨0, n + 1, _, _, rfl, rfl, Nat.zero_le _, Lib.hid (by have := HNN.out; omega), Lib.hid (by rw [List.take_zero, List.map_nil, List.append_nil]; exact HO8.out), HB14, by have := HG8.out.size; rw [World.size_alloc] at this; have := HX13.out.lt; omega⟩
      case round =>
        obtain ⟨j, m, Ap, cp, rfl, rfl, hj, HMK, HOP, HBQ, hsq⟩ := hrel
        rename World => wq
        have hm6 : m ≤ 3000 := by have := HMK.out; omega
        by_cases hjt : j < M
        · have e2 : decide ((j : Int) < (M : Int)) = true := decide_eq_true (by omega)
          have k1 : (0 : Int) ≤ (j : Int) := by omega
          have k2 : (j : Int) < (M : Int) := by omega
          have hjl : j < del.length := by rw [HM.out]; exact hjt
          obtain ⟨b, o, rfl, -, hc⟩ := text_elem (HD.out.below HBQ.out) hjl
          have htk := take_mapS (f := sh) hjl
          have hsz := (nm_size (HMAY.out.2 _ (List.getElem_mem hjl))).2
          obtain ⟨s, hs⟩ : ∃ s, del[j] = s := ⟨_, rfl⟩
          rw [hs] at hc htk hsz
          have HTK := Lib.hid htk
          clear hs htk
          go_wp2_with (first
            | (go_at_call 49; refine (short_any s _ (by omega)).mono ?_; rintro e w15 ⟨rfl, hb15⟩; have HB15 := Lib.hid hb15; clear hb15)
            | (at_builtin; go_loud (refine texts_app rfl _ _ rfl (w.heap.size + 1) Ap m cp (m + 1) _ [sh s] rfl (OwnS.below (OwnS.below HOP.out HB15.out) (below_al _ _)) (some ⟨w15.heap.size, 0, none⟩) 1 1 rfl (Rd.madeS _ [sh s] rfl _ rfl) rfl rfl (by omega) (by rw [World.size_alloc]; have := HB15.out.size; omega) ?_); intro A9 c9 w16 HO9 HG9; have HB16 := Lib.hid (Own.grow (OwnS.below (OwnS.below HOP.out HB15.out) (below_al _ _)) ((HBQ.out.trans (HB15.out.mono HBQ.out.size)).trans ((below_al w15 (.cells #[.string (sh s)] 9)).mono (Nat.le_trans HBQ.out.size HB15.out.size))) (by rw [World.size_alloc]; have := HB15.out.size; omega) (Nat.le_succ _) HG9.out)))
          have ho9 := HO9.out
          rw [List.append_assoc, ← HTK.out] at ho9
          exact ⟨⟨j + 1, m + 1, A9, c9, rfl, by first | rfl | go_num, by omega, Lib.hid (by have := HMK.out; omega), Lib.hid ho9, HB16, by have := HG9.out.size; rw [World.size_alloc] at this; have := HB15.out.size; omega⟩, by simp [intOf]; omega⟩
        · have e2 : decide ((j : Int) < (M : Int)) = false := decide_eq_false (by omega)
          have hop := HOP.out
          rw [List.take_of_length_le (by rw [HM.out]; omega)] at hop
          have hpe : headE nx fl N ++ add.flatMap fiParts ++ [nb M 1] ++ del.map sh = partsE nx fl add del := by unfold partsE; rw [HN.out, HM.out]
          rw [hpe] at hop
          have hsz := cat_size (partsE nx fl add del) 60 (partsE_size HBE.out)
          rw [partsE_len, HN.out, HM.out] at hsz
          have HJ := Lib.hid (join_own hop (by have := HMK.out; omega) (by omega) (by omega))
          clear hop hpe hsz HOP
          go_wp2_with (go_at_call 50; refine HJ.out.mono ?_; rintro e w17 ⟨rfl, hb17⟩)
          go_ret2
          exact ⟨rfl, HBQ.out.trans (hb17.mono HBQ.out.size)⟩
theorem encode_any (A D : Option Addr) (c d N M : Nat) (add : List Fi) (del : List ByteArray) (nx fl : Nat) (w : World) (hA : Rd w w.heap.size A (fis add)) (hD : Rd w w.heap.size D (del.map Value.string)) (hN : add.length = N) (hM : del.length = M) (hn : N ≤ 100000) (hm : M ≤ 100000) {S : ByteArray} {E : Int} (hS : encE nx fl add del = (S, E)) :
    Calls Try.prog 22 #[.agg #[.slice A N c, .slice D M d, .int .u64 nx, .int .u64 fl]] w fun e w' => e = .returned (.tuple #[.string S, .int .i64 E]) ∧ Below w.heap.size w w' := by
  unfold encE at hS
  cases h1 : (add.any fun x => !may x) with
  | true =>
    rw [if_pos (by unfold badE; rw [h1]; rfl)] at hS
    injection hS with h2 h3
    subst h2 h3
    exact encode_bad1 A D c d N M add del nx fl w hA hD hN hM hn hm h1
  | false =>
    cases h2 : (del.any fun s => !nm s 59) with
    | true =>
      rw [if_pos (by unfold badE; rw [h1, h2]; rfl)] at hS
      injection hS with h2' h3
      subst h2' h3
      exact encode_bad2 A D c d N M add del nx fl w hA hD hN hM hn hm h1 h2
    | false =>
      rw [if_neg (by unfold badE; rw [h1, h2]; simp)] at hS
      by_cases hw1 : 255 < N
      · rw [if_pos (by unfold wideE; rw [hN, decide_eq_true hw1]; rfl)] at hS
        injection hS with h2' h3
        subst h2' h3
        exact encode_wide1 A D c d N M add del nx fl w hA hD hN hM hn hm h1 h2 hw1
      · by_cases hw2 : 255 < M
        · rw [if_pos (by unfold wideE; rw [hM, decide_eq_true hw2, Bool.or_true])] at hS
          injection hS with h2' h3
          subst h2' h3
          exact encode_wide2 A D c d N M add del nx fl w hA hD hN hM hn hm h1 h2 (by omega) hw2
        · rw [if_neg (by unfold wideE; rw [hN, hM, decide_eq_false hw1, decide_eq_false hw2]; simp)] at hS
          injection hS with h2' h3
          subst h2' h3
          exact encode_ok A D c d N M add del nx fl w hA hD hN hM (by omega) (by omega) h1 h2
end Go.Proofs.Ytaeemeoffnhgfaa
