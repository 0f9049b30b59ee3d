/-
  The walk of view.Scan.
-/
import Derived.Test.YtoligmmjmghgnaaAll14
import Derived.Test.YtoligmmjmghgnaaColumns14
import Derived.Test.YtoligmmjmghgnaaReadCell
namespace Go.Proofs.Ytoligmmjmghgnaa
open Go.RowKit Go.Shelf
attribute [local go_sem ↓] Go.wp_at_zero Go.wp_at_succ
attribute [local go_sem] Oper.semAt_some

/-- what the loop over the columns keeps: the variable g8 with a slice of its own, all older blocks but it and the iterator's own one -/
structure OutSt (w1 : World) (Bn g8 : Nat) (W : World) (own : List Nat) (A : Option Addr) (n c : Nat) (m : List Cl) : Prop where
  os : W.os = w1.os
  tape : W.tape = w1.tape
  output : W.output = w1.output
  size : w1.heap.size ≤ W.heap.size
  old : ∀ k, k < w1.heap.size → k ≠ Bn → k ≠ g8 → W.heap[k]? = w1.heap[k]?
  box : Box W g8 26 (.slice A n c)
  row : OwnC W w1.heap.size A n c m
  ow : own = g8 :: (blk A).toList
theorem OutSt.still {w1 W W' : World} {Bn g8 n c : Nat} {own : List Nat} {A : Option Addr} {m : List Cl} (h : OutSt w1 Bn g8 W own A n c m) (hs : StillB w1.heap.size [Bn] own W W') : OutSt w1 Bn g8 W' own A n c m :=
  ⟨hs.os.trans h.os, hs.tape.trans h.tape, hs.output.trans h.output, Nat.le_trans h.size hs.size, fun k hk h1 h2 => (hs.block k (Nat.lt_of_lt_of_le hk h.size) (.inl ⟨hk, by simpa using h1⟩)).trans (h.old k hk h1 h2),
    (hs.block g8 h.box.lt (.inr (by rw [h.ow]; simp))).trans h.box, Own.keep h.row fun k hk => hs.block k (Own.lt h.row k hk).2 (.inr (by rw [h.ow, hk]; simp)), h.ow⟩
theorem OutSt.lies {w1 W : World} {Bn g8 n c : Nat} {own : List Nat} {A : Option Addr} {m : List Cl} (h : OutSt w1 Bn g8 W own A n c m) : ∀ k ∈ own, k < W.heap.size := by
  intro k hk
  rw [h.ow] at hk
  rcases List.mem_cons.1 hk with rfl | hk
  · exact h.box.lt
  · cases hA : blk A with
    | none => rw [hA] at hk; cases hk
    | some j => rw [hA] at hk; simp at hk; subst hk; exact (Own.lt h.row k hA).2
theorem OutSt.below {w w1 W : World} {Bn g8 n c : Nat} {own : List Nat} {A : Option Addr} {m : List Cl} (h : OutSt w1 Bn g8 W own A n c m) (hb : Below w.heap.size w w1) (h1 : w.heap.size ≤ Bn) (h2 : w.heap.size ≤ g8) : Below w.heap.size w W :=
  ⟨h.os.trans hb.os, h.tape.trans hb.tape, h.output.trans hb.output, Nat.le_trans hb.size h.size, fun k hk => (h.old k (Nat.lt_of_lt_of_le hk hb.size) (by omega) (by omega)).trans (hb.block k hk)⟩
theorem OutSt.rd {w1 W : World} {Bn g8 n c B : Nat} {own : List Nat} {A Aa : Option Addr} {m l : List Cl} (h : OutSt w1 Bn g8 W own A n c m) (hr : Rd w1 B Aa (cls l)) (hB : B ≤ w1.heap.size) (hne : ∀ k, blk Aa = some k → k ≠ Bn ∧ k ≠ g8) : Rd W B Aa (cls l) := fun hn => by
  obtain ⟨b, o, e, hb, hc⟩ := hr hn
  have hk := hne b (by rw [e]; rfl)
  exact ⟨b, o, e, hb, fun j hj => (World.cell?_of_block (a := ⟨b, o + j, none⟩) (h.old b (by omega) hk.1 hk.2)).trans (hc j hj)⟩
theorem OutSt.push {w1 W W5 W6 : World} {Bn g8 n c N6 c6 : Nat} {own : List Nat} {A A6 : Option Addr} {m m' : List Cl} (h : OutSt w1 Bn g8 W own A n c m) (hg8 : g8 < w1.heap.size) (hb : Below W.heap.size W W5) (ho : OwnC W6 w1.heap.size A6 N6 c6 m') (hg : W5.grownBy W6 (blk A)) (hor : blk A6 = blk A ∨ blk A6 = some W5.heap.size) :
    OutSt w1 Bn g8 (W6.setCell ⟨g8, 0, none⟩ (.slice A6 N6 c6)) (g8 :: (blk A6).toList) A6 N6 c6 m' ∧ Mv own (g8 :: (blk A6).toList) W (W6.setCell ⟨g8, 0, none⟩ (.slice A6 N6 c6)) := by
  have hgA : blk A ≠ some g8 := fun e => by have := (Own.lt h.row g8 e).1; omega
  have hbx6 : Box W6 g8 26 (.slice A n c) := (hg.block g8 (Nat.lt_of_lt_of_le h.box.lt hb.size) (Ne.symm hgA)).trans ((hb.block g8 h.box.lt).trans h.box)
  have hsz : (W6.setCell ⟨g8, 0, none⟩ (.slice A6 N6 c6)).heap.size = W6.heap.size := by simp [World.setCell]
  have hs6 := Nat.le_trans hb.size hg.size
  refine ⟨⟨hg.os.trans (hb.os.trans h.os), hg.tape.trans (hb.tape.trans h.tape), hg.output.trans (hb.output.trans h.output), by rw [hsz]; exact Nat.le_trans h.size hs6, fun k hk h1 h2 => ?_, hbx6.set _, Own.setCell ho (fun e => by have := (Own.lt ho g8 e).1; omega) _, rfl⟩,
    ⟨hg.os.trans hb.os, hg.tape.trans hb.tape, hg.output.trans hb.output, by rw [hsz]; exact hs6, fun k hk hn => ?_, fun k hk => ?_, fun k hk => ?_⟩⟩
  · have hkW := Nat.lt_of_lt_of_le hk h.size
    exact (Below.heap_setCell _ _ _ _ h2).trans ((hg.block k (Nat.lt_of_lt_of_le hkW hb.size) (fun e => by have := (Own.lt h.row k e.symm).1; omega)).trans ((hb.block k hkW).trans (h.old k hk h1 h2)))
  · rw [h.ow] at hn
    simp only [List.mem_cons, not_or] at hn
    exact (Below.heap_setCell _ _ _ _ hn.1).trans ((hg.block k (Nat.lt_of_lt_of_le hk hb.size) (fun e => hn.2 (by rw [← e]; simp))).trans (hb.block k hk))
  · rcases List.mem_cons.1 hk with rfl | hk
    · exact .inl (by rw [h.ow]; simp)
    · rcases hor with e | e
      · rw [e] at hk
        exact .inl (by rw [h.ow]; simp [hk])
      · rw [e] at hk
        simp only [Option.toList_some, List.mem_singleton] at hk
        exact .inr (by rw [hk]; exact hb.size)
  · rw [hsz]
    rcases List.mem_cons.1 hk with rfl | hk
    · exact hbx6.lt
    · cases hA : blk A6 with
      | none => rw [hA] at hk; cases hk
      | some j => rw [hA] at hk; simp at hk; subst hk; exact (Own.lt ho _ hA).2
theorem OutSt.same {w1 W : World} {Bn g8 n c : Nat} {own : List Nat} {A : Option Addr} {m : List Cl} (h : OutSt w1 Bn g8 W own A n c m) (hg8 : g8 < w1.heap.size) : OutSt w1 Bn g8 (W.setCell ⟨g8, 0, none⟩ (.slice A n c)) own A n c m := by
  have := (h.push hg8 (Below.refl _ _) h.row (grownBy_refl _ _) (.inl rfl)).1
  rw [h.ow]
  exact this
/-- the group at a place, as a slice -/
theorem grp_rd {W : World} {B c N : Nat} {Aa : Option Addr} {A : List Cl} (h : Rd W B Aa (cls A)) (hN : A.length = N) (hc : N ≤ c) {k m : Nat} (hk : k ≤ N) (hm : m ≤ N - k) : Rd W B (tailA Aa c k 6) (cls ((A.drop k).take m)) :=
  Rd.frontR (Rd.tailR Cl.vals_len h hN hc hk) Cl.vals_len (by rw [List.length_drop, hN]; exact hm)
theorem Stays.of_out {w1 : World} {Bn g8 : Nat} {f : List (Nat × Nat) → List Cl} : StaysB w1.heap.size [Bn] (fun (pre : List (Nat × Nat)) (own1 : List Nat) (Wx : World) => ∃ Ao no co, OutSt w1 Bn g8 Wx own1 Ao no co (f pre)) := by
  rintro pre own W W' ⟨Ao, no, co, h⟩ hs
  exact ⟨Ao, no, co, h.still hs⟩
theorem Once.length_le {α : Type} {lt : α → α → Bool} (hw : Weak lt) {l A : List α} (h : Once lt l A) : A.length ≤ l.length := by
  have hn : A.Nodup := h.1.imp fun {a b} hab e => by subst e; rw [hw.irrefl] at hab; cases hab
  exact (subset_length hn fun x hx => h.mem hw hx)
where
  subset_length {α : Type} : ∀ {A l : List α}, A.Nodup → A ⊆ l → A.length ≤ l.length
    | [], _, _, _ => Nat.zero_le _
    | x :: A, l, hn, hs => by
      obtain ⟨s, t, rfl⟩ := List.append_of_mem (hs List.mem_cons_self)
      obtain ⟨h1, h2⟩ := List.nodup_cons.1 hn
      have := subset_length (l := s ++ t) h2 fun y hy => by
        have hy2 := hs (List.mem_cons_of_mem _ hy)
        rcases List.mem_append.1 hy2 with h | h
        · exact List.mem_append_left _ h
        · rcases List.mem_cons.1 h with rfl | h
          · exact absurd hy h1
          · exact List.mem_append_right _ h
      simp only [List.length_append, List.length_cons] at this ⊢
      omega
def scanF (A : List Cl) (fr tl : ByteArray) (k : Nat) : List Cl := (A.take k).filter fun c => inR fr tl c.row && seen A c
theorem scan_next {A : List Cl} (hA : Strict A) {k : Nat} (h : Cut A k) (hk : k < A.length) (fr tl : ByteArray) :
    scanF A fr tl (k + colLen (A.drop k)) = scanF A fr tl k ++ (if inR fr tl A[k].row then ((A.drop k).take (colLen (A.drop k))).filter (seen ((A.drop k).take (colLen (A.drop k)))) else []) := by
  unfold scanF
  rw [filter_grp]
  congr 1
  have hG := grp_at hA (k := k)
  have h0 : 0 < (A.drop k).length := by rw [List.length_drop]; omega
  have hm := colLen_pos (l := A.drop k) (by omega)
  have hx : A[k] ∈ (A.drop k).take (colLen (A.drop k)) := by
    rw [List.mem_take_iff_getElem]
    exact ⟨0, by omega, by rw [List.getElem_drop]; rfl⟩
  have hrow : ∀ c ∈ (A.drop k).take (colLen (A.drop k)), c.row = A[k].row := fun c hc => (column_eq.1 (hG.one c hc _ hx)).1
  have hs : ((A.drop k).take (colLen (A.drop k))).filter (fun c => inR fr tl c.row && seen A c) = ((A.drop k).take (colLen (A.drop k))).filter (fun c => inR fr tl A[k].row && seen ((A.drop k).take (colLen (A.drop k))) c) := by
    apply List.filter_congr
    intro c hc
    rw [hrow c hc, seen_grp hA h hk hc]
  rw [hs]
  cases inR fr tl A[k].row with
  | true => rw [if_pos rfl]; simp only [Bool.true_and]
  | false => rw [if_neg Bool.false_ne_true]; simp
theorem scan_all (A : List Cl) (fr tl : ByteArray) : scanF A fr tl A.length = scanP A fr tl := by
  unfold scanF scanP
  rw [List.take_length]
theorem cut_at {A : List Cl} (hA : Strict A) : ∀ (pre : List (Nat × Nat)), (∀ p x q, pre = p ++ [x] ++ q → x = (tot p, colLen (A.drop (tot p))) ∧ tot p < A.length) → Cut A (tot pre) := by
  intro pre
  obtain ⟨r, hr⟩ : ∃ r, r = pre.reverse := ⟨_, rfl⟩
  have hp : pre = r.reverse := by rw [hr, List.reverse_reverse]
  subst hp
  clear hr
  induction r with
  | nil => intro _; exact Cut.zero A
  | cons x r ih =>
    intro h
    rw [List.reverse_cons] at h ⊢
    have h1 := h r.reverse x [] (by simp)
    have h2 := ih fun p y q e => h p y (q ++ [x]) (by rw [e]; simp)
    rw [tot_snoc, h1.1]
    exact h2.next hA h1.2
theorem cut_pre {A : List Cl} (hA : Strict A) {pre : List (Nat × Nat)} {x : Nat × Nat} (h : pre ++ [x] <+: cols A) : Cut A (tot pre) ∧ x = (tot pre, colLen (A.drop (tot pre))) ∧ tot pre < A.length := by
  have key : ∀ p y, p ++ [y] <+: cols A → y = (tot p, colLen (A.drop (tot p))) ∧ tot p < A.length := fun p y hp => by
    have := cols_at A.length A 0 p y hp
    rw [Nat.zero_add] at this
    exact this
  refine ⟨cut_at hA pre fun p y q e => key p y ?_, key pre x h⟩
  obtain ⟨z, hz⟩ := h
  exact ⟨q ++ [x] ++ z, by rw [← hz, e]; simp⟩
theorem inR_cases (fr tl r : ByteArray) : (lt r fr = true ∧ inR fr tl r = false) ∨ (lt r fr = false ∧ tl.size = 0 ∧ inR fr tl r = true) ∨ (lt r fr = false ∧ tl.size ≠ 0 ∧ inR fr tl r = lt r tl) := by
  unfold inR
  cases h : lt r fr with
  | true => exact .inl ⟨rfl, rfl⟩
  | false =>
    by_cases h0 : tl.size = 0
    · exact .inr (.inl ⟨rfl, h0, by rw [decide_eq_true h0]; rfl⟩)
    · exact .inr (.inr ⟨rfl, h0, by rw [decide_eq_false h0]; rfl⟩)
theorem empty_size (s : ByteArray) : (s.toList == []) = decide (s.size = 0) := by
  rw [ByteArray.toList_eq]
  by_cases h : s.size = 0
  · rw [decide_eq_true h, beq_iff_eq]
    exact Array.toList_eq_nil_iff.2 (Array.eq_empty_of_size_eq_zero h)
  · rw [decide_eq_false h, beq_eq_false_iff_ne]
    intro e
    apply h
    have := congrArg List.length e
    exact this
theorem bl_lt (a b : ByteArray) : Op.bytesLess a.toList b.toList = lt a b := rfl
set_option maxRecDepth 100000 in
set_option maxHeartbeats 4000000 in
theorem scan_any (Aq : Option Addr) (c N at_ : Nat) (L : List Cs) (fr tl : ByteArray) (w : World) (hA : Rd w w.heap.size Aq (L.map Cs.val)) (hl : CsIn w w.heap.size L) (hN : L.length = N) (hlen : N ≤ 1000) (htot : (L.flatMap Cs.l).length ≤ 100000) :
    Calls Try.prog 9 #[.slice Aq N c, .int .u64 (at_ : Int), .string fr, .string tl] w fun e w' => ∃ (A' : Option Addr) (n' c' : Nat) (m : List Cl), e = .returned (.slice A' n' c') ∧ Once Cl.lt (allOf L at_) m ∧ OwnC w' w.heap.size A' n' c' (scanP m fr tl) ∧ Below w.heap.size w w' := by
  obtain ⟨w0, hw0⟩ : ∃ w0, ((w.alloc (.cells #[.string fr] 9)).alloc (.cells #[.string tl] 9)).alloc (.cells #[.slice none 0 0] 26) = w0 := ⟨_, rfl⟩
  have hb0 : Below w.heap.size w w0 := hw0 ▸ (below_al2 w _ _).trans ((below_al _ _).mono (below_al2 w _ _).size)
  have hs0 : w0.heap.size = w.heap.size + 3 := by rw [← hw0]; simp only [World.size_alloc]
  have hx6 : Box w0 w.heap.size 9 (.string fr) := by
    rw [← hw0]
    exact ((Box.new w 9 (.string fr)).alloc _).alloc _
  have hx7 : Box w0 (w.heap.size + 1) 9 (.string tl) := by
    rw [← hw0]
    have := (Box.new (w.alloc (.cells #[.string fr] 9)) 9 (.string tl)).alloc (.cells #[.slice none 0 0] 26)
    rwa [World.size_alloc] at this
  have hx8 : Box w0 (w.heap.size + 2) 26 (.slice none 0 0) := by
    rw [← hw0]
    have := Box.new ((w.alloc (.cells #[.string fr] 9)).alloc (.cells #[.string tl] 9)) 26 (.slice none 0 0)
    rwa [World.size_alloc, World.size_alloc] at this
  have hall := all_any Aq c N at_ L w0 ((hA.below hb0).more hb0.size) ((hl.below hb0).more hb0.size) hN hlen htot
  have HALL := Lib.hid hall
  have HW0 := Lib.hid hw0
  have HB0 := Lib.hid hb0
  have HS0 := Lib.hid hs0
  have HX6 := Lib.hid hx6
  have HX7 := Lib.hid hx7
  have HX8 := Lib.hid hx8
  clear hall hw0 hb0 hs0 hx6 hx7 hx8 hA hl hN
  refine (callsIn_wide (n := 9)).1 ?_
  refine callsIn_of_wp_marks Try.func9 rfl trivial ?_ rfl
  simp only [Try.ntmps9, List.size_toArray, List.length_cons, List.length_nil, Nat.reduceAdd, Nat.reduceSub, Array.replicate_succ, Array.replicate_zero, List.push_toArray, List.append_toArray, List.nil_append, List.cons_append]
  gi_wp2_with (first
    | (refine ⟨trivial, ?_⟩; gi_at_call 17; rw [HW0.out]; refine (callsIn_wide.2 HALL.out).mono ?_; rintro e w2 ⟨A2, n2, c2, m, rfl, hn2, hm, ho2, hb2⟩)
    | (refine ⟨trivial, ?_⟩; gi_at_call 16; refine (callsIn_wide.2 (columns_any A2 n2 c2 _)).mono ?_; rintro e w3 ⟨rfl, rfl⟩))
  have HM := Lib.hid hm
  have HO2 := Lib.hid ho2
  have HB2 := Lib.hid hb2
  obtain ⟨w3, hw3⟩ : ∃ w3, w2.alloc (.cells #[.slice A2 n2 c2] 26) = w3 := ⟨_, rfl⟩
  have hbx3 : Box w3 w2.heap.size 26 (.slice A2 n2 c2) := hw3 ▸ Box.new w2 _ _
  have hb23 : Below w2.heap.size w2 w3 := hw3 ▸ below_al w2 _
  have hs3 : w3.heap.size = w2.heap.size + 1 := by rw [← hw3, World.size_alloc]
  have hr3 : Rd w3 w2.heap.size A2 (cls m) := ho2.rd.below hb23
  have hml : m.length = n2 := ho2.len
  have hcap : n2 ≤ c2 := ho2.le
  have h02 : w.heap.size + 3 ≤ w2.heap.size := by have := HS0.out; have := hb2.size; omega
  have hblk : ∀ k, blk A2 = some k → w.heap.size + 3 ≤ k ∧ k < w2.heap.size := fun k hk => by
    have := Own.lt ho2 k hk
    have := HS0.out
    omega
  have hb03 : Below w0.heap.size w0 w3 := hb2.trans (hb23.mono hb2.size)
  have hbw3 : Below w.heap.size w w3 := HB0.out.trans (hb03.mono HB0.out.size)
  have hbx8 : Box w3 (w.heap.size + 2) 26 (.slice none 0 0) := HX8.out.below hb03 (by have := HS0.out; omega)
  have hbx6 : Box w3 w.heap.size 9 (.string fr) := HX6.out.below hb03 (by have := HS0.out; omega)
  have hbx7 : Box w3 (w.heap.size + 1) 9 (.string tl) := HX7.out.below hb03 (by have := HS0.out; omega)
  have hst0 : OutSt w3 w2.heap.size (w.heap.size + 2) w3 [w.heap.size + 2] none 0 0 (scanF m fr tl 0) := ⟨rfl, rfl, rfl, Nat.le_refl _, fun _ _ _ _ => rfl, hbx8, OwnC.nil, rfl⟩
  rw [hw3]
  have hflow := columns_flow (9 - 1) (by omega) w2.heap.size w2.heap.size c2 n2 A2 m (fun k => k ≠ w2.heap.size ∧ blk A2 ≠ some k) w3 hml hcap hn2 (by omega) hr3 hbx3 (fun h => h.1 rfl) (fun k hk => ⟨fun h => h.2 hk, by have := hblk k hk; omega⟩)
  have HBX6 := Lib.hid hbx6
  have HBX7 := Lib.hid hbx7
  have HR3 := Lib.hid hr3
  have HML := Lib.hid hml
  have HBLK := Lib.hid hblk
  have HBW3 := Lib.hid hbw3
  have HS3 := Lib.hid hs3
  clear hm ho2 hb2 hw3 hbx3 hb23 hr3 hml hblk hb03 hbw3 hbx8 hbx6 hbx7 hs3
  refine wpIn_flowB (F := Fence.wide) (n := 9) rfl rfl (gf := 28) (lb := #[.pointer (some ⟨w2.heap.size, 0, none⟩)]) rfl trivial (enters_of Try.func28 (by kernel_rfl) rfl) (fun _ => rfl) hflow
    (fun k hk => ⟨by have := HS3.out; omega, fun e => by have := HBLK.out k e; have := HS3.out; omega⟩) (fun k hk => by have := HS3.out; simp only [List.mem_singleton] at hk; omega)
    (fun pre own1 Wx => ∃ Ao no co, OutSt w3 w2.heap.size (w.heap.size + 2) Wx own1 Ao no co (scanF m fr tl (tot pre))) Stays.of_out [w.heap.size + 2] ?how ?h0 ?hround ?hdone
  case how =>
    intro k hk
    simp only [List.mem_singleton] at hk
    have := HS3.out
    exact ⟨⟨by omega, fun e => by have := HBLK.out k e; omega⟩, by omega⟩
  case h0 => exact ⟨none, 0, 0, hst0⟩
  case hround =>
    rintro r pre x own1 Wx hr ⟨Ao, no, co, h⟩ hin hpre
    obtain ⟨hcut, hx, hlt⟩ := cut_pre HM.out.1 hpre
    subst hx
    clear hst0 hflow
    obtain ⟨k, hk⟩ : ∃ k, tot pre = k := ⟨_, rfl⟩
    have htot2 : ∀ y : Nat × Nat, tot (pre ++ [y]) = k + y.2 := fun y => by rw [tot_snoc, hk]
    rw [hk] at h hcut hlt
    simp only [hk, htot2]
    have hml := HML.out
    have hG := grp_at HM.out.1 (k := k)
    have hsn := scan_next HM.out.1 hcut hlt fr tl
    have hg0 := colLen_pos (l := m.drop k) (by rw [List.length_drop]; omega)
    rw [List.length_drop, hml] at hg0
    obtain ⟨g, hg⟩ : ∃ g, colLen (m.drop k) = g := ⟨_, rfl⟩
    rw [hg] at hG hsn hg0 ⊢
    obtain ⟨G, hGG⟩ : ∃ G, (m.drop k).take g = G := ⟨_, rfl⟩
    have hGl : G.length = g := by rw [← hGG, List.length_take, List.length_drop, hml]; omega
    rw [hGG] at hG hsn
    obtain ⟨b, o, hA2, hbl, -⟩ := rd_elem (HR3.out) hlt
    subst hA2
    have hbk := HBLK.out b rfl
    have hkn : k < n2 := by omega
    have hta := tail_at b o c2 k (by omega)
    have hcv : colVal (some ⟨b, o, none⟩) c2 (k, g) = .slice (some ⟨b, o + k * 6, none⟩) g (c2 - k) := by unfold colVal; rw [hta]
    simp only [hcv]
    obtain ⟨row, hrow⟩ : ∃ row, m[k].row = row := ⟨_, rfl⟩
    rw [hrow] at hsn
    have HSN := Lib.hid hsn
    have HG := Lib.hid hG
    have HGL := Lib.hid hGl
    have HGG := Lib.hid hGG
    have HTA := Lib.hid hta
    have HROW := Lib.hid hrow
    have HLT := Lib.hid hlt
    have HG0 := Lib.hid hg0
    clear hk htot2 hcut hG hsn hg hGG hGl hta hcv hrow hml hin hpre h hg0
    gi_wp2
    refine ⟨Below.refl _ _, ?_⟩
    rintro W2 hT ⟨A4, n4, c4, h4⟩
    have hrd := h4.rd HR3.out (by have := HS3.out; omega) (fun q hq => by have := HBLK.out q hq; omega)
    have hgr := grp_rd hrd HML.out hcap (k := k) (m := g) (by omega) (by have := HG0.out; omega)
    rw [HTA.out, HGG.out] at hgr
    obtain ⟨b', o', hA', -, hrr⟩ := rd_elem hrd HLT.out
    obtain ⟨rfl, rfl⟩ : b = b' ∧ o = o' := by cases hA'; exact ⟨rfl, rfl⟩
    have hc0 : W2.cell? ⟨b, o + k * 6, none⟩ = some (.string row) := by rw [← HROW.out]; exact hrr 0 _ rfl
    have hb6 : Box W2 w.heap.size 9 (.string fr) := (h4.old w.heap.size (by have := HS3.out; omega) (by omega) (by omega)).trans HBX6.out
    have hc6 := hb6.cell
    have hb7 : Box W2 (w.heap.size + 1) 9 (.string tl) := (h4.old (w.heap.size + 1) (by have := HS3.out; omega) (by omega) (by omega)).trans HBX7.out
    have hc7 := hb7.cell
    have hc8 := h4.box.cell
    have hf8 := h4.box.free
    have H4 := Lib.hid h4
    have HGR := Lib.hid (hgr.more (show w2.heap.size ≤ W2.heap.size by have := h4.size; have := HS3.out; omega))
    have h8l := h4.box.lt
    have hg1 := HG0.out
    have hn4 : n4 ≤ 100000 := by
      have := OwnC.len h4.row
      unfold scanF at this
      have h5 := List.length_filter_le (fun c => inR fr tl c.row && seen m c) (m.take k)
      rw [List.length_take] at h5
      omega
    have h83 : w.heap.size + 2 < w3.heap.size := by have := HS3.out; omega
    clear h4 hrd hgr hrr hA' hT hb6 hb7
    have q0 : (0 : Int) < (g : Int) := by omega
    have q1 : 0 < g := by omega
    have e2 := bl_lt row fr
    have e3 := bl_lt row tl
    have e4 := empty_size tl
    rcases inR_cases fr tl row with ⟨h1, h2⟩ | ⟨h1, h2, h3⟩ | ⟨h1, h2, h3⟩
    · rw [h1] at e2
      have HF := Lib.hid (show scanF m fr tl (k + g) = scanF m fr tl k by rw [HSN.out, h2]; exact List.append_nil _)
      clear e3 e4 h1 h2
      gi_wp2
      exact ⟨_, ⟨A4, n4, c4, by rw [HF.out]; exact H4.out⟩, Mv.refl H4.out.lies⟩
    · rw [h1] at e2
      rw [decide_eq_true h2] at e4
      have HF := Lib.hid (show scanF m fr tl (k + g) = scanF m fr tl k ++ G.filter (seen G) by rw [HSN.out, h3]; rfl)
      clear e3 h1 h2 h3
      gi_wp2
      have HC : W2.drew.cell? ⟨w.heap.size + 2, 0, none⟩ = some (.slice A4 n4 c4) := hc8
      clear e2 e4
      refine region_wz_round (fun W => W.cell? ⟨w.heap.size + 2, 0, none⟩ = some (.slice A4 n4 c4)) (some 4) (by kernel_rfl) (by kernel_rfl) ?_
      apply WZ.take (i := 0) (some 32) rfl rfl (by kernel_rfl) (by kernel_rfl) (by kernel_rfl) (calm_panic _) (by kernel_rfl)
      case hy => (refine .inl ⟨by kernel_rfl, fun W hC => ?_⟩; (try dsimp only at hC); go_simp; rfl)
      case hC => exact HC
      case ha => (simp only [Act.put, List.setIfInBounds_toArray, List.set_cons_zero, List.set_cons_succ]; rfl)
      apply WZ.take (i := 1) (some 33) rfl rfl (by kernel_rfl) (by kernel_rfl) (by kernel_rfl) (calm_panic _) (by kernel_rfl)
      case hy => (refine .inl ⟨by kernel_rfl, fun W hC => ?_⟩; (try dsimp only at hC); go_simp; rfl)
      case hC => exact HC
      case ha => (simp only [Act.put, List.setIfInBounds_toArray, List.set_cons_zero, List.set_cons_succ]; rfl)
      -- 2
      refine WZ.one (i := 2) rfl (by kernel_rfl) ?_
      conv => arg 4; arg 1; whnf
      go_wp2_with (go_at_call 18; refine (read_any b (o + k * 6) (c2 - k) g G W2.drew (show Rd W2.drew W2.drew.heap.size _ _ from HGR.out) HG.out HGL.out (by omega) (by omega)).mono ?_; rintro e w5 ⟨A5, n5, c5, rfl, hn5, ho5, hb5⟩)
      have hb5' := below_of_drew' hb5
      have HO5 := Lib.hid ho5
      have HB5 := Lib.hid (show Below W2.heap.size W2 w5 from hb5')
      have HC2 := (hb5'.cell (p := ⟨w.heap.size + 2, 0, none⟩) h8l).trans hc8
      have hf5 := (hb5'.frozen (p := ⟨w.heap.size + 2, 0, none⟩) h8l).trans hf8
      clear HC ho5 hb5 hb5'
      have HC := HC2
      clear HC2
      refine ⟨HC, ?_⟩
      -- 3
      refine WZ.one (i := 3) rfl (by kernel_rfl) ?_
      conv => arg 4; arg 1; whnf
      go_wp2_with (at_builtin; go_loud (refine cells_app3 rfl _ _ rfl w3.heap.size A4 n4 c4 (n4 + n5) (scanF m fr tl k) (G.filter (seen G)) rfl (OwnC.below H4.out.row HB5.out) A5 n5 c5 rfl (OwnC.rd HO5.out) (OwnC.len HO5.out) rfl (by omega) (by have := H4.out.size; have := HB5.out.size; omega) ?_); intro A6 c6 w6 HO6 HG6 HR6)
      have hne6 : some (w.heap.size + 2) ≠ blk A4 := fun e => by have := (Own.lt H4.out.row _ e.symm).1; omega
      have h8l5 := Nat.lt_of_lt_of_le h8l HB5.out.size
      have HC2 := (HG6.out.cell_far ⟨w.heap.size + 2, 0, none⟩ h8l5 hne6).trans HC
      have hf6 := (HG6.out.frozen_far ⟨w.heap.size + 2, 0, none⟩ h8l5 hne6).trans hf5
      clear HC hf5
      have HC := HC2
      clear HC2
      refine ⟨HC, ?_⟩
      -- 4
      refine WZ.last (i := 4) rfl (by kernel_rfl) (by kernel_rfl) ?_
      conv => arg 4; arg 1; whnf
      go_wp2_with (fail)
      refine WZ.done (by kernel_rfl) ?_ _
      simp only [Calm, Exit.then]
      have HP := Lib.hid (H4.out.push h83 HB5.out HO6.out HG6.out HR6.out)
      clear HC
      (try gi_wp2)
      rw [HF.out]
      exact ⟨_, ⟨A6, n4 + n5, c6, HP.out.1⟩, HP.out.2⟩
    · rw [h1] at e2
      rw [decide_eq_false h2] at e4
      cases h5 : lt row tl with
      | false =>
        rw [h5] at e3 h3
        have HF := Lib.hid (show scanF m fr tl (k + g) = scanF m fr tl k by rw [HSN.out, h3]; exact List.append_nil _)
        clear h1 h2 h3 h5
        gi_wp2
        exact ⟨_, ⟨A4, n4, c4, by rw [HF.out]; exact H4.out⟩, Mv.refl H4.out.lies⟩
      | true =>
        rw [h5] at e3 h3
        have HF := Lib.hid (show scanF m fr tl (k + g) = scanF m fr tl k ++ G.filter (seen G) by rw [HSN.out, h3]; rfl)
        clear h1 h2 h3 h5
        gi_wp2
        have HC : W2.drew.cell? ⟨w.heap.size + 2, 0, none⟩ = some (.slice A4 n4 c4) := hc8
        clear e2 e4
        refine region_wz_round (fun W => W.cell? ⟨w.heap.size + 2, 0, none⟩ = some (.slice A4 n4 c4)) (some 4) (by kernel_rfl) (by kernel_rfl) ?_
        apply WZ.take (i := 0) (some 32) rfl rfl (by kernel_rfl) (by kernel_rfl) (by kernel_rfl) (calm_panic _) (by kernel_rfl)
        case hy => (refine .inl ⟨by kernel_rfl, fun W hC => ?_⟩; (try dsimp only at hC); go_simp; rfl)
        case hC => exact HC
        case ha => (simp only [Act.put, List.setIfInBounds_toArray, List.set_cons_zero, List.set_cons_succ]; rfl)
        apply WZ.take (i := 1) (some 33) rfl rfl (by kernel_rfl) (by kernel_rfl) (by kernel_rfl) (calm_panic _) (by kernel_rfl)
        case hy => (refine .inl ⟨by kernel_rfl, fun W hC => ?_⟩; (try dsimp only at hC); go_simp; rfl)
        case hC => exact HC
        case ha => (simp only [Act.put, List.setIfInBounds_toArray, List.set_cons_zero, List.set_cons_succ]; rfl)
        -- 2
        refine WZ.one (i := 2) rfl (by kernel_rfl) ?_
        conv => arg 4; arg 1; whnf
        go_wp2_with (go_at_call 18; refine (read_any b (o + k * 6) (c2 - k) g G W2.drew (show Rd W2.drew W2.drew.heap.size _ _ from HGR.out) HG.out HGL.out (by omega) (by omega)).mono ?_; rintro e w5 ⟨A5, n5, c5, rfl, hn5, ho5, hb5⟩)
        have hb5' := below_of_drew' hb5
        have HO5 := Lib.hid ho5
        have HB5 := Lib.hid (show Below W2.heap.size W2 w5 from hb5')
        have HC2 := (hb5'.cell (p := ⟨w.heap.size + 2, 0, none⟩) h8l).trans hc8
        have hf5 := (hb5'.frozen (p := ⟨w.heap.size + 2, 0, none⟩) h8l).trans hf8
        clear HC ho5 hb5 hb5'
        have HC := HC2
        clear HC2
        refine ⟨HC, ?_⟩
        -- 3
        refine WZ.one (i := 3) rfl (by kernel_rfl) ?_
        conv => arg 4; arg 1; whnf
        go_wp2_with (at_builtin; go_loud (refine cells_app3 rfl _ _ rfl w3.heap.size A4 n4 c4 (n4 + n5) (scanF m fr tl k) (G.filter (seen G)) rfl (OwnC.below H4.out.row HB5.out) A5 n5 c5 rfl (OwnC.rd HO5.out) (OwnC.len HO5.out) rfl (by omega) (by have := H4.out.size; have := HB5.out.size; omega) ?_); intro A6 c6 w6 HO6 HG6 HR6)
        have hne6 : some (w.heap.size + 2) ≠ blk A4 := fun e => by have := (Own.lt H4.out.row _ e.symm).1; omega
        have h8l5 := Nat.lt_of_lt_of_le h8l HB5.out.size
        have HC2 := (HG6.out.cell_far ⟨w.heap.size + 2, 0, none⟩ h8l5 hne6).trans HC
        have hf6 := (HG6.out.frozen_far ⟨w.heap.size + 2, 0, none⟩ h8l5 hne6).trans hf5
        clear HC hf5
        have HC := HC2
        clear HC2
        refine ⟨HC, ?_⟩
        -- 4
        refine WZ.last (i := 4) rfl (by kernel_rfl) (by kernel_rfl) ?_
        conv => arg 4; arg 1; whnf
        go_wp2_with (fail)
        refine WZ.done (by kernel_rfl) ?_ _
        simp only [Calm, Exit.then]
        have HP := Lib.hid (H4.out.push h83 HB5.out HO6.out HG6.out HR6.out)
        clear HC
        (try gi_wp2)
        rw [HF.out]
        exact ⟨_, ⟨A6, n4 + n5, c6, HP.out.1⟩, HP.out.2⟩
  case hdone =>
    rintro D own' Wd ⟨A, no, co, h⟩ hmv hD1 hD2 hD3 hD4
    rw [show tot (cols m) = m.length from cols_all m.length m 0 (Nat.le_refl _), scan_all] at h
    clear hst0 hflow
    have h8 : w.heap.size + 2 < w3.heap.size := by have := HS3.out; omega
    have hbx := h.box.cell
    have hfz := h.box.free
    have hD5 : (Wd.setCell ⟨w.heap.size + 2, 0, none⟩ (.slice A no co)).heap[D]? = some (.deferred (some [])) := (Below.heap_setCell _ _ _ _ (by show D ≠ w.heap.size + 2; omega)).trans hD4
    have h2 := (h.same h8).still ((Still.putObj (n0 := w3.heap.size) (own := own') _ (.deferred none) hD1 hD3).toB _)
    have H := Lib.hid h2
    have HD := Lib.hid hD5
    clear h h2 hD4 hD5
    gi_wp2
    refine ⟨by simp, .inl ⟨_, _, rfl, run_takeDeferred HD.out, ?_⟩⟩
    have hbx5 := H.out.box.cell
    refine ⟨_, by simp [results, Try.results9, go_sem, hbx5], A, no, co, m, rfl, HM.out, OwnC.lower H.out.row (by have := HS3.out; omega), H.out.below HBW3.out (by omega) (by omega)⟩
end Go.Proofs.Ytoligmmjmghgnaa
