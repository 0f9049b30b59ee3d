/-
  The bytes of an edit, plain; the walks of SameEdit and of the law ManifestBytes. No conditions.
-/
import Derived.Test.YtaeemeoffnhgfaaByE13
namespace Go.Proofs.Ytaeemeoffnhgfaa
open Go.RowKit

theorem ext_left (s r : ByteArray) : (s ++ r).extract 0 s.size = s := ByteArray.extract_append_eq_left rfl
theorem ext_right (s r : ByteArray) : (s ++ r).extract s.size (s ++ r).size = r := ByteArray.extract_append_eq_right rfl (ByteArray.size_append' s r)
theorem nil_app (s : ByteArray) : (⟨#[]⟩ : ByteArray) ++ s = s := by
  apply ByteArray.ext
  simp
theorem takeP_app (s r : ByteArray) (b : Bool) (k : Nat) (hk : s.size = k) : takeP k (s ++ r, b) = (s, r, b) := by
  subst hk
  unfold takeP
  simp only
  rw [if_neg (by rw [ByteArray.size_append']; omega), ext_left, ext_right]
theorem numL_nb (k : Nat) : ∀ N : Nat, numL (((List.range k).map fun i => (N : Int) / 2 ^ (8 * i) % 256).map byteI) = N % 256 ^ k := by
  induction k with
  | zero => intro N; simp [numL, Nat.mod_one]
  | succ k ih =>
    intro N
    rw [List.range_succ_eq_map, List.map_cons, List.map_cons, numL, List.map_map, List.map_map]
    have h := ih (N / 256)
    rw [List.map_map] at h
    have e : (List.map ((byteI ∘ (fun i => (N : Int) / 2 ^ (8 * i) % 256)) ∘ Nat.succ) (List.range k)) = List.map (byteI ∘ fun i => ((N / 256 : Nat) : Int) / 2 ^ (8 * i) % 256) (List.range k) := by
      apply List.map_congr_left
      intro i _
      simp only [Function.comp]
      congr 1
      have h1 : (N : Int) / 2 ^ (8 * (i + 1)) = ((N / 2 ^ (8 * (i + 1)) : Nat) : Int) := by simp
      have h2 : ((N / 256 : Nat) : Int) / 2 ^ (8 * i) = ((N / 256 / 2 ^ (8 * i) : Nat) : Int) := by simp
      rw [Nat.succ_eq_add_one, h1, h2, Nat.div_div_eq_div_mul]
      congr 3
      rw [Nat.mul_add, Nat.pow_add, Nat.mul_comm]
    rw [e, h]
    have hb : (byteI ((N : Int) / 2 ^ (8 * 0) % 256)).toNat = N % 256 := by
      unfold byteI
      have : ((N : Int) / 2 ^ (8 * 0) % 256).toNat = N % 256 := by simp; omega
      rw [this]
      simp
    rw [hb, Nat.pow_succ, Nat.mul_comm (256 ^ k) 256, Nat.mod_mul]
theorem nb_num {N k : Nat} (h : N < 256 ^ k) : numL (nb N k).data.toList = N := by
  unfold nb nbI ofL
  simp only
  rw [numL_nb, Nat.mod_eq_of_lt h]
theorem numP_app {N k : Nat} (h : N < 256 ^ k) (r : ByteArray) (b : Bool) : numP k (nb N k ++ r, b) = (N, r, b) := by
  unfold numP
  rw [takeP_app _ _ _ _ (nb_size N k)]
  simp only
  rw [nb_num h]
theorem shP_app {s : ByteArray} (h : s.size < 256) (r : ByteArray) (b : Bool) : shP (sh s ++ r, b) = (s, r, b) := by
  unfold shP sh
  rw [ByteArray.append_assoc, numP_app (by simpa using h)]
  exact takeP_app s r b _ rfl
theorem cat_fi {x : Fi} {lv mn : Nat} (hl : x.level = lv) (hm : x.many = mn) (r : ByteArray) : cat (fiParts x) ++ r = nb lv 1 ++ (sh x.name ++ (sh x.low ++ (sh x.high ++ (nb mn 2 ++ r)))) := by
  unfold fiParts
  rw [hl, hm, cat_cons, cat_cons, cat_cons, cat_cons, cat_one, Int.toNat_natCast, Int.toNat_natCast]
  simp only [ByteArray.append_assoc]
theorem fi_of {x : Fi} {lv mn : Nat} (hl : x.level = lv) (hm : x.many = mn) : (⟨(lv : Int), x.name, x.low, x.high, (mn : Int)⟩ : Fi) = x := by
  rw [← hl, ← hm]
theorem fileP_app {x : Fi} (h : FiOk x) (r : ByteArray) (b : Bool) : fileP (cat (fiParts x) ++ r, b) = (x, r, b) := by
  obtain ⟨lv, hl, hl2⟩ := h.lv
  obtain ⟨mn, hm, _, hm2⟩ := h.mn
  have h1 := h.nm
  have h2 := h.lo
  have h3 := h.hi
  rw [cat_fi hl hm, fileP_eq (numP_app (by omega) _ b) (shP_app (by omega) _ b) (shP_app (by omega) _ b) (shP_app (by omega) _ b) (numP_app (by omega) r b), fi_of hl hm]
theorem filesTo_app {L : List Fi} (h : ∀ x ∈ L, FiOk x) (b : Bool) : ∀ k, k ≤ L.length → ∀ r, filesTo k (cat ((L.take k).flatMap fiParts) ++ r, b) = (L.take k, r, b)
  | 0, _, r => by
    rw [filesTo]
    simp only [List.take_zero, List.flatMap_nil, cat_nil, nil_app]
  | k + 1, hk, r => by
    rw [take_flat (show k < L.length by omega), cat_append, ByteArray.append_assoc, filesTo, filesTo_app h b k (by omega)]
    simp only
    rw [fileP_app (h _ (List.getElem_mem (show k < L.length by omega))), List.take_succ_eq_append_getElem (show k < L.length by omega)]
theorem delsTo_app {L : List ByteArray} (h : ∀ s ∈ L, s.size < 256) (b : Bool) : ∀ k, k ≤ L.length → ∀ r, delsTo k (cat ((L.take k).map sh) ++ r, b) = (L.take k, r, b)
  | 0, _, r => by
    rw [delsTo]
    simp only [List.take_zero, List.map_nil, cat_nil, nil_app]
  | k + 1, hk, r => by
    rw [take_mapS (show k < L.length by omega), cat_append, cat_one, ByteArray.append_assoc, delsTo, delsTo_app h b k (by omega)]
    simp only
    rw [shP_app (h _ (List.getElem_mem (show k < L.length by omega))), List.take_succ_eq_append_getElem (show k < L.length by omega)]
theorem encB_parts (nx fl : Nat) (add : List Fi) (del : List ByteArray) : encB nx fl add del = nb nx 8 ++ (nb fl 8 ++ (nb add.length 1 ++ (cat (add.flatMap fiParts) ++ (nb del.length 1 ++ (cat (del.map sh) ++ ⟨#[]⟩))))) := by
  unfold encB partsE headE
  rw [app_nil, cat_append, cat_append, cat_append, cat_cons, cat_cons, cat_one, cat_one]
  simp only [ByteArray.append_assoc]
theorem encE_zero {nx fl : Nat} {add : List Fi} {del : List ByteArray} {t : ByteArray} (h : encE nx fl add del = (t, 0)) : badE add del = false ∧ add.length ≤ 255 ∧ del.length ≤ 255 ∧ t = encB nx fl add del := by
  unfold encE at h
  cases hb : badE add del with
  | true => rw [hb, if_pos rfl] at h; injection h with _ h; cases h
  | false =>
    rw [hb, if_neg (by simp)] at h
    cases hw : wideE add del with
    | true => rw [hw, if_pos rfl] at h; injection h with _ h; cases h
    | false =>
      rw [hw, if_neg (by simp)] at h
      injection h with h _
      unfold wideE at hw
      simp only [Bool.or_eq_false_iff, decide_eq_false_iff_not] at hw
      exact ⟨rfl, by omega, by omega, h.symm⟩
theorem parseM_enc {nx fl : Nat} {add : List Fi} {del : List ByteArray} (hb : badE add del = false) (h1 : add.length ≤ 255) (h2 : del.length ≤ 255) (hx : nx < 18446744073709551616) (hf : fl < 18446744073709551616) : parseM (encB nx fl add del) = ⟨nx, fl, add, del, false⟩ := by
  obtain ⟨hA, hD⟩ := badE_false hb
  have hA' : ∀ x ∈ add, FiOk x := fun x hx => FiOk.of (hA x hx)
  have hD' : ∀ s ∈ del, s.size < 256 := fun s hs => by have := (nm_size (hD s hs)).2; omega
  have f1 := filesTo_app hA' false add.length (Nat.le_refl _)
  have d1 := delsTo_app hD' false del.length (Nat.le_refl _) ⟨#[]⟩
  rw [List.take_of_length_le (Nat.le_refl _)] at f1 d1
  rw [encB_parts]
  unfold parseM
  simp only [numP_app (show nx < 256 ^ 8 by omega), numP_app (show fl < 256 ^ 8 by omega), numP_app (show add.length < 256 ^ 1 by omega), f1, numP_app (show del.length < 256 ^ 1 by omega), d1]

theorem firstR_app {N : Nat} (h : N < 256) (r : ByteArray) : firstR (nb N 1 ++ r) = ((N : Int), r) := by
  have hn := nb_num (show N < 256 ^ 1 by omega)
  have hs := nb_size N 1
  have hl : (nb N 1).data.toList.length = 1 := hs
  match hd : (nb N 1).data.toList, hl with
  | [c], _ =>
    rw [hd] at hn
    simp only [numL] at hn
    have hd2 : (nb N 1 ++ r).data.toList = c :: r.data.toList := by
      rw [ByteArray.data_append, Array.toList_append, hd]
      rfl
    unfold firstR
    rw [hd2]
    simp only
    have he := ext_right (nb N 1) r
    rw [hs] at he
    rw [he]
    congr 1
    omega
theorem takenR_app {s : ByteArray} (h : s.size < 256) (r : ByteArray) : takenR (sh s ++ r) = (s, r, true) := by
  unfold takenR sh
  rw [ByteArray.append_assoc, firstR_app h]
  simp only
  rw [if_neg (by rw [ByteArray.size_append']; omega), Int.toNat_natCast, ext_left, ext_right]
theorem take_app (s r : ByteArray) (k : Nat) (hk : s.size = k) : (s ++ r).data.toList.take k = s.data.toList := by
  subst hk
  rw [ByteArray.data_append, Array.toList_append]
  exact List.take_left
theorem fileR_app {x : Fi} (h : FiOk x) (r : ByteArray) : fileR (cat (fiParts x) ++ r) = some (x, r) := by
  obtain ⟨lv, hl, hl2⟩ := h.lv
  obtain ⟨mn, hm, _, hm2⟩ := h.mn
  have h1 := h.nm
  have h2 := h.lo
  have h3 := h.hi
  have he := ext_right (nb mn 2) r
  rw [nb_size] at he
  rw [cat_fi hl hm, fileR_eq (firstR_app (by omega) _) (takenR_app (by omega) _) (takenR_app (by omega) _) (takenR_app (by omega) _), if_pos (by simp [ByteArray.size_append', nb_size]), take_app _ _ _ (nb_size mn 2), nb_num (by omega), he, fi_of hl hm]
theorem filesR_app {L : List Fi} (h : ∀ x ∈ L, FiOk x) : ∀ k, k ≤ L.length → ∀ r, filesR k (cat ((L.take k).flatMap fiParts) ++ r) = some (L.take k, r)
  | 0, _, r => by
    rw [filesR]
    simp only [List.take_zero, List.flatMap_nil, cat_nil, nil_app]
  | k + 1, hk, r => by
    rw [take_flat (show k < L.length by omega), cat_append, ByteArray.append_assoc, filesR_next (filesR_app h k (by omega) _) (fileR_app (h _ (List.getElem_mem (show k < L.length by omega))) r), List.take_succ_eq_append_getElem (show k < L.length by omega)]
theorem delsR_app {L : List ByteArray} (h : ∀ s ∈ L, s.size < 256) : ∀ k, k ≤ L.length → ∀ r, delsR k (cat ((L.take k).map sh) ++ r) = some (L.take k, r)
  | 0, _, r => by
    rw [delsR]
    simp only [List.take_zero, List.map_nil, cat_nil, nil_app]
  | k + 1, hk, r => by
    rw [take_mapS (show k < L.length by omega), cat_append, cat_one, ByteArray.append_assoc, delsR_next (delsR_app h k (by omega) _) (takenR_app (h _ (List.getElem_mem (show k < L.length by omega))) r), List.take_succ_eq_append_getElem (show k < L.length by omega)]
theorem decR_enc {nx fl : Nat} {add : List Fi} {del : List ByteArray} (hb : badE add del = false) (h1 : add.length ≤ 255) (h2 : del.length ≤ 255) (hx : nx < 18446744073709551616) (hf : fl < 18446744073709551616) : decR (encB nx fl add del) = ⟨nx, fl, add, del, 0⟩ := by
  obtain ⟨hA, hD⟩ := badE_false hb
  have hA' : ∀ x ∈ add, FiOk x := fun x hx => FiOk.of (hA x hx)
  have hD' : ∀ s ∈ del, s.size < 256 := fun s hs => by have := (nm_size (hD s hs)).2; omega
  have f1 := filesR_app hA' add.length (Nat.le_refl _)
  have d1 := delsR_app hD' del.length (Nat.le_refl _) ⟨#[]⟩
  rw [List.take_of_length_le (Nat.le_refl _)] at f1 d1
  have he : encE nx fl add del = (encB nx fl add del, 0) := encE_ok hb h1 h2
  obtain ⟨t, ht⟩ : ∃ t, encB nx fl add del = t := ⟨_, rfl⟩
  have hp := encB_parts nx fl add del
  rw [ht] at he hp ⊢
  obtain ⟨r2, hr2⟩ : ∃ r, nb add.length 1 ++ (cat (add.flatMap fiParts) ++ (nb del.length 1 ++ (cat (del.map sh) ++ ⟨#[]⟩))) = r := ⟨_, rfl⟩
  rw [hr2] at hp
  have e8 : t.extract 8 t.size = nb fl 8 ++ r2 := by
    have := ext_right (nb nx 8) (nb fl 8 ++ r2)
    rw [nb_size, ← hp] at this
    exact this
  have e16 : t.extract 16 t.size = r2 := by
    have := ext_right (nb nx 8 ++ nb fl 8) r2
    rw [ByteArray.append_assoc, ← hp, ByteArray.size_append', nb_size, nb_size] at this
    exact this
  have hs : ¬ t.size < 16 := by rw [hp, ByteArray.size_append', ByteArray.size_append', nb_size, nb_size]; omega
  have hn1 : numL (t.data.toList.take 8) = nx := by rw [hp, take_app _ _ _ (nb_size nx 8), nb_num (by omega)]
  have hn2 : numL ((t.extract 8 t.size).data.toList.take 8) = fl := by rw [e8, take_app _ _ _ (nb_size fl 8), nb_num (by omega)]
  have hf1 := firstR_app (N := add.length) (by omega) (cat (add.flatMap fiParts) ++ (nb del.length 1 ++ (cat (del.map sh) ++ ⟨#[]⟩)))
  rw [hr2, ← e16] at hf1
  exact (decR_all hs hf1 (by rw [Int.toNat_natCast]; exact f1 _) (firstR_app (by omega) _) (by rw [Int.toNat_natCast]; exact d1) hn1 hn2 he).1 ⟨rfl, rfl⟩
/-- what the reference says is nothing, or an edit whose text it is -/
theorem decR_cases (t : ByteArray) : decR t = noAns ∨ ∃ nx fl F G, nx < 18446744073709551616 ∧ fl < 18446744073709551616 ∧ encE nx fl F G = (t, 0) ∧ decR t = ⟨nx, fl, F, G, 0⟩ := by
  have hl : ∀ s : ByteArray, numL (s.data.toList.take 8) < 18446744073709551616 := fun s => by
    refine Nat.lt_of_lt_of_le (numL_lt _) (Nat.le_trans (Nat.pow_le_pow_right (by omega) (?_ : _ ≤ 8)) (by decide))
    rw [List.length_take]; exact Nat.min_le_left _ _
  unfold decR
  split
  · exact .inl rfl
  · split
    · exact .inl rfl
    · split
      · exact .inl rfl
      · split
        · exact .inr ⟨_, _, _, _, hl _, hl _, by assumption, rfl⟩
        · exact .inl rfl
theorem dec_eq (t : ByteArray) : decM t = decR t := by
  have hn1 : (parseM t).nx < 18446744073709551616 := numP_lt 8 (t, false)
  have hn2 : (parseM t).fl < 18446744073709551616 := numP_lt 8 (numP 8 (t, false)).2
  cases ho : okM t with
  | true =>
    unfold decM
    rw [if_pos ho]
    unfold okM at ho
    rw [Bool.and_eq_true, decide_eq_true_eq] at ho
    obtain ⟨h1, h2, h3, h4⟩ := encE_zero ho.2
    have := decR_enc h1 h2 h3 hn1 hn2
    rw [← h4] at this
    rw [this]
  | false =>
    unfold decM
    rw [if_neg (by rw [ho]; simp)]
    rcases decR_cases t with h | ⟨nx, fl, F, G, hx, hf, he, hd⟩
    · rw [h]
    · exfalso
      obtain ⟨h1, h2, h3, h4⟩ := encE_zero he
      have hp := parseM_enc h1 h2 h3 hx hf
      rw [← h4] at hp
      have : okM t = true := by
        unfold okM
        rw [hp]
        simp only [Bool.not_false, Bool.true_and, decide_eq_true_eq]
        exact he
      rw [this] at ho
      cases ho
/-- what was written is read -/
theorem dec_enc {nx fl : Nat} {add : List Fi} {del : List ByteArray} {t : ByteArray} (hx : nx < 18446744073709551616) (hf : fl < 18446744073709551616) (h : encE nx fl add del = (t, 0)) : decM t = ⟨nx, fl, add, del, 0⟩ := by
  obtain ⟨h1, h2, h3, h4⟩ := encE_zero h
  rw [dec_eq, h4]
  exact decR_enc h1 h2 h3 hx hf
theorem enc_fail {nx fl : Nat} {add : List Fi} {del : List ByteArray} {t : ByteArray} {E : Int} (h : encE nx fl add del = (t, E)) (hE : E ≠ 0) : t = ⟨#[]⟩ := by
  unfold encE at h
  split at h
  · injection h with h _; exact h.symm
  · split at h
    · injection h with h _; exact h.symm
    · injection h with _ h; exact absurd h.symm hE
end Go.Proofs.Ytaeemeoffnhgfaa

namespace Go.Proofs.Ytaeemeoffnhgfaa
open Go.RowKit
attribute [local go_sem ↓] Go.wp_at_zero Go.wp_at_succ

set_option maxRecDepth 20000 in
set_option maxHeartbeats 4000000 in
theorem sameEdit_any (A A' D D' : Option Addr) (c c' d d' n m : Nat) (add : List Fi) (del : List ByteArray) (nx fl : Nat) (w : World) (h1 : Rd w w.heap.size A (fis add)) (h2 : Rd w w.heap.size A' (fis add)) (h3 : Rd w w.heap.size D (del.map Value.string)) (h4 : Rd w w.heap.size D' (del.map Value.string)) (hn : add.length = n) (hm : del.length = m) (ln : n ≤ 100000) (lm : m ≤ 100000) :
    Calls Try.prog 26 #[.agg #[.slice A n c, .slice D m d, .int .u64 nx, .int .u64 fl], .agg #[.slice A' n c', .slice D' m d', .int .u64 nx, .int .u64 fl]] w fun e w' => e = .returned (.bool true) ∧ Below w.heap.size w w' := by
  have hx0 := EBox.new 49 w A n c D m d nx fl
  have hb0 := below_al w (.cells #[.slice A n c, .slice D m d, .int .u64 nx, .int .u64 fl] 49)
  obtain ⟨W0, hW0⟩ : ∃ W0, w.alloc (.cells #[.slice A n c, .slice D m d, .int .u64 nx, .int .u64 fl] 49) = W0 := ⟨_, rfl⟩
  have hs0 : W0.heap.size = w.heap.size + 1 := by rw [← hW0, World.size_alloc]
  rw [hW0] at hx0 hb0
  have hx1 := EBox.new 49 W0 A' n c' D' m d' nx fl
  have hb1 := below_al W0 (.cells #[.slice A' n c', .slice D' m d', .int .u64 nx, .int .u64 fl] 49)
  have hx0' := hx0.below hb1 hx0.lt
  obtain ⟨W1, hW1⟩ : ∃ W1, W0.alloc (.cells #[.slice A' n c', .slice D' m d', .int .u64 nx, .int .u64 fl] 49) = W1 := ⟨_, rfl⟩
  rw [hW1] at hx1 hb1 hx0'
  rw [hs0] at hx1
  have HX0 := Lib.hid hx0'
  have HX1 := Lib.hid hx1
  have HB := Lib.hid (hb0.trans (hb1.mono (by omega)))
  obtain ⟨c0, c1, c2, c3⟩ := hx0'.cells
  obtain ⟨d0, d1, d2, d3⟩ := hx1.cells
  have H1 := Lib.hid h1
  have H2 := Lib.hid h2
  have H3 := Lib.hid h3
  have H4 := Lib.hid h4
  have HN := Lib.hid hn
  have HM := Lib.hid hm
  clear h1 h2 h3 h4 hx0 hx1 hx0' hb0 hb1 hn hm
  go_enter Try.func26, Try.ntmps26
  go_wp2
  go_loopw [5] (fun v5 wr => ∃ k q : Nat, v5 = .int .i64 (k : Int) ∧ k ≤ m ∧ wr = W1.drewN q) (fun v5 _ => m - (intOf v5).toNat)
  case atStart => exact ⟨0, 0, rfl, Nat.zero_le _, rfl⟩
  case round =>
    obtain ⟨k, q, rfl, hk, rfl⟩ := hrel
    by_cases hlt : k < m
    · have e1 : decide ((k : Int) < (m : Int)) = true := decide_eq_true (by omega)
      have k1 : (0 : Int) ≤ (k : Int) := by omega
      have k2 : (k : Int) < (m : Int) := by omega
      have hw3 : IntKind.i64.wrap ((k : Int) + 1) = ((k + 1 : Nat) : Int) := by rw [IntWalk.i64_in _ (by omega)]; omega
      have hkl : k < del.length := by rw [HM.out]; exact hlt
      obtain ⟨b, o, rfl, -, hc⟩ := text_elem (H3.out.below HB.out) hkl
      obtain ⟨b', o', rfl, -, hc'⟩ := text_elem (H4.out.below HB.out) hkl
      obtain ⟨s, hs⟩ : ∃ s, del[k] = s := ⟨_, rfl⟩
      rw [hs] at hc hc'
      have HC : W1.cell? ⟨w.heap.size, 1, none⟩ = some (.slice (some ⟨b, o, none⟩) m d) ∧ W1.cell? ⟨w.heap.size + 1, 1, none⟩ = some (.slice (some ⟨b', o', none⟩) m d') ∧ W1.cell? ⟨b, o + k, none⟩ = some (.string s) ∧ W1.cell? ⟨b', o' + k, none⟩ = some (.string s) := ⟨c1, d1, hc, hc'⟩
      clear hs
      go_wp2
      refine region_wz (fun W => W.cell? ⟨w.heap.size, 1, none⟩ = some (.slice (some ⟨b, o, none⟩) m d) ∧ W.cell? ⟨w.heap.size + 1, 1, none⟩ = some (.slice (some ⟨b', o', none⟩) m d') ∧ W.cell? ⟨b, o + k, none⟩ = some (.string s) ∧ W.cell? ⟨b', o' + k, none⟩ = some (.string s)) none (by kernel_rfl) ?_
      apply WZ.take (i := 0) (some 34) rfl rfl (by kernel_rfl) (by kernel_rfl) (by kernel_rfl) (calm_panic _) (by kernel_rfl)
      case hy => (refine .inl ⟨by kernel_rfl, fun W hC => ?_⟩; (try dsimp only at hC); go_simp; rfl)
      case hC => exact HC
      case ha => (simp only [Act.put, List.setIfInBounds_toArray, List.set_cons_zero, List.set_cons_succ]; rfl)
      apply WZ.take (i := 1) (some 35) rfl rfl (by kernel_rfl) (by kernel_rfl) (by kernel_rfl) (calm_panic _) (by kernel_rfl)
      case hy => (refine .inl ⟨by kernel_rfl, fun W hC => ?_⟩; (try dsimp only at hC); go_simp; rfl)
      case hC => exact HC
      case ha => (simp only [Act.put, List.setIfInBounds_toArray, List.set_cons_zero, List.set_cons_succ]; rfl)
      apply WZ.take (i := 2) (some 36) rfl rfl (by kernel_rfl) (by kernel_rfl) (by kernel_rfl) (calm_panic _) (by kernel_rfl)
      case hy => (refine .inl ⟨by kernel_rfl, fun W hC => ?_⟩; (try dsimp only at hC); go_simp; rfl)
      case hC => exact HC
      case ha => (simp only [Act.put, List.setIfInBounds_toArray, List.set_cons_zero, List.set_cons_succ]; rfl)
      apply WZ.take (i := 3) (some 37) rfl rfl (by kernel_rfl) (by kernel_rfl) (by kernel_rfl) (calm_panic _) (by kernel_rfl)
      case hy => (refine .inl ⟨by kernel_rfl, fun W hC => ?_⟩; (try dsimp only at hC); go_simp; rfl)
      case hC => exact HC
      case ha => (simp only [Act.put, List.setIfInBounds_toArray, List.set_cons_zero, List.set_cons_succ]; rfl)
      apply WZ.take (i := 4) (some 38) rfl rfl (by kernel_rfl) (by kernel_rfl) (by kernel_rfl) (calm_panic _) (by kernel_rfl)
      case hy => (refine .inl ⟨by kernel_rfl, fun W hC => ?_⟩; (try dsimp only at hC); go_simp; rfl)
      case hC => exact HC
      case ha => (simp only [Act.put, List.setIfInBounds_toArray, List.set_cons_zero, List.set_cons_succ]; rfl)
      apply WZ.take (i := 5) (some 39) rfl rfl (by kernel_rfl) (by kernel_rfl) (by kernel_rfl) (calm_panic _) (by kernel_rfl)
      case hy => (refine .inl ⟨by kernel_rfl, fun W hC => ?_⟩; (try dsimp only at hC); go_simp; rfl)
      case hC => exact HC
      case ha => (simp only [Act.put, List.setIfInBounds_toArray, List.set_cons_zero, List.set_cons_succ]; rfl)
      apply WZ.take (i := 6) (some 40) rfl rfl (by kernel_rfl) (by kernel_rfl) (by kernel_rfl) (calm_panic _) (by kernel_rfl)
      case hy => (refine .inl ⟨by kernel_rfl, fun W hC => ?_⟩; (try dsimp only at hC); go_simp; rfl)
      case hC => exact HC
      case ha => (simp only [Act.put, List.setIfInBounds_toArray, List.set_cons_zero, List.set_cons_succ]; rfl)
      apply WZ.take (i := 7) (some 41) rfl rfl (by kernel_rfl) (by kernel_rfl) (by kernel_rfl) (calm_panic _) (by kernel_rfl)
      case hy => (refine .inl ⟨by kernel_rfl, fun W hC => ?_⟩; (try dsimp only at hC); go_simp; rfl)
      case hC => exact HC
      case ha => (simp only [Act.put, List.setIfInBounds_toArray, List.set_cons_zero, List.set_cons_succ]; rfl)
      apply WZ.take (i := 8) (some 42) rfl rfl (by kernel_rfl) (by kernel_rfl) (by kernel_rfl) (calm_panic _) (by kernel_rfl)
      case hy => (refine .inl ⟨by kernel_rfl, fun W hC => ?_⟩; (try dsimp only at hC); go_simp; rfl)
      case hC => exact HC
      case ha => (simp only [Act.put, List.setIfInBounds_toArray, List.set_cons_zero, List.set_cons_succ]; rfl)
      apply WZ.take (i := 9) (some 43) rfl rfl (by kernel_rfl) (by kernel_rfl) (by kernel_rfl) (calm_panic _) (by kernel_rfl)
      case hy => (refine .inl ⟨by kernel_rfl, fun W hC => ?_⟩; (try dsimp only at hC); go_simp; rfl)
      case hC => exact HC
      case ha => (simp only [Act.put, List.setIfInBounds_toArray, List.set_cons_zero, List.set_cons_succ]; rfl)
      apply WZ.take (i := 10) (some 44) rfl rfl (by kernel_rfl) (by kernel_rfl) (by kernel_rfl) (calm_panic _) (by kernel_rfl)
      case hy => (refine .inl ⟨by kernel_rfl, fun W hC => ?_⟩; (try dsimp only at hC); go_simp; rfl)
      case hC => exact HC
      case ha => (simp only [Act.put, List.setIfInBounds_toArray, List.set_cons_zero, List.set_cons_succ]; rfl)
      refine WZ.done (by kernel_rfl) ?_ _
      simp only [Calm, Exit.then]
      go_wp2
      go_roundw
      case rel => exact ⟨k + 1, q + 1, rfl, by omega, rfl⟩
      case measure => simp [intOf]; omega
    · have e1 : decide ((k : Int) < (m : Int)) = false := decide_eq_false (by omega)
      have HS := Lib.hid (sameFiles_any A A' c c' n n add add (W1.drewN q) w.heap.size (H1.out.below (below_drewN' HB.out q)) (H2.out.below (below_drewN' HB.out q)) HN.out HN.out (by omega) (by omega))
      go_wp2_with (go_at_call 13; refine HS.out.mono ?_; rw [decide_eq_true rfl]; rintro e w9 ⟨rfl, hb9⟩)
      go_ret
      exact ⟨rfl, (below_drewN' HB.out q).trans (hb9.mono HB.out.size)⟩
end Go.Proofs.Ytaeemeoffnhgfaa

namespace Go.Proofs.Ytaeemeoffnhgfaa
open Go.RowKit
attribute [local go_sem ↓] Go.wp_at_zero Go.wp_at_succ

set_option maxRecDepth 20000 in
set_option maxHeartbeats 4000000 in
theorem bytes_bad (A D : Option Addr) (c d N M : Nat) (add : List Fi) (del : List ByteArray) (nx fl : Nat) (t : ByteArray) (w : World) (hA : Rd w w.heap.size A (fis add)) (hD : Rd w w.heap.size D (del.map Value.string)) (hN : add.length = N) (hM : del.length = M) (hn : N ≤ maxLen) (hm : M ≤ maxLen) (hsm : smallE add del = false) :
    Calls Try.prog 8 #[.agg #[.slice A N c, .slice D M d, .int .u64 nx, .int .u64 fl], .string t] w fun e w' => e = .returned (.bool true) ∧ Below w.heap.size w w' := by
  have hx := EBox.new 36 w A N c D M d nx fl
  have hb := below_al w (.cells #[.slice A N c, .slice D M d, .int .u64 nx, .int .u64 fl] 36)
  obtain ⟨W0, hW0⟩ : ∃ W0, w.alloc (.cells #[.slice A N c, .slice D M d, .int .u64 nx, .int .u64 fl] 36) = W0 := ⟨_, rfl⟩
  rw [hW0] at hx hb
  have HX := Lib.hid hx
  have HB := Lib.hid hb
  have HA := Lib.hid hA
  have HD := Lib.hid hD
  have HN := Lib.hid hN
  have HM := Lib.hid hM
  have HSM := Lib.hid (small_any A D c d N M add del nx fl W0 ((hA.below hb).more hb.size) ((hD.below hb).more hb.size) hN hM hn hm)
  clear hx hb hA hD hN hM
  go_enter Try.func8, Try.ntmps8
  go_wp2_with
    (first
      | (show wpList _ _ _ ({ dst := some 15, op := Op.load _ _, type := _, pos := _, after := _, guard := _ } :: _) _ _; refine wpList_load_mid rfl 36 (.tmp 2) rfl w.heap.size 0 rfl [.slice A N c, .slice D M d, .int .u64 nx, .int .u64 fl] _ HX.out.range Try.underlying36 rfl (by kernel_rfl) ?_)
      | (go_at_call 15; refine HSM.out.mono ?_; rw [hsm]; rintro e w1 ⟨rfl, hb1⟩; have HB1 := Lib.hid (HB.out.trans (hb1.mono HB.out.size)); have HX1 := Lib.hid (HX.out.below hb1 HX.out.lt); clear hb1)
      | (go_at_call 11; refine (shown_any _).mono ?_; rintro e w2 ⟨rfl, hb2⟩; have HB2 := Lib.hid (HB1.out.trans (hb2.mono HB1.out.size)); have HX2 := Lib.hid (HX1.out.below hb2 HX1.out.lt); clear hb2))
  go_ret
  exact ⟨rfl, HB2.out⟩
set_option maxRecDepth 20000 in
set_option maxHeartbeats 4000000 in
theorem bytes_long (A D : Option Addr) (c d N M : Nat) (add : List Fi) (del : List ByteArray) (nx fl : Nat) (t : ByteArray) (w : World) (hA : Rd w w.heap.size A (fis add)) (hD : Rd w w.heap.size D (del.map Value.string)) (hN : add.length = N) (hM : del.length = M) (hn : N ≤ maxLen) (hm : M ≤ maxLen) (hsm : smallE add del = true) (ht : 600 < t.size) :
    Calls Try.prog 8 #[.agg #[.slice A N c, .slice D M d, .int .u64 nx, .int .u64 fl], .string t] w fun e w' => e = .returned (.bool true) ∧ Below w.heap.size w w' := by
  have e1 : decide ((600 : Int) < (t.size : Int)) = true := decide_eq_true (by omega)
  have hx := EBox.new 36 w A N c D M d nx fl
  have hb := below_al w (.cells #[.slice A N c, .slice D M d, .int .u64 nx, .int .u64 fl] 36)
  obtain ⟨W0, hW0⟩ : ∃ W0, w.alloc (.cells #[.slice A N c, .slice D M d, .int .u64 nx, .int .u64 fl] 36) = W0 := ⟨_, rfl⟩
  rw [hW0] at hx hb
  have HX := Lib.hid hx
  have HB := Lib.hid hb
  have HA := Lib.hid hA
  have HD := Lib.hid hD
  have HN := Lib.hid hN
  have HM := Lib.hid hM
  have HSM := Lib.hid (small_any A D c d N M add del nx fl W0 ((hA.below hb).more hb.size) ((hD.below hb).more hb.size) hN hM hn hm)
  clear hx hb hA hD hN hM
  go_enter Try.func8, Try.ntmps8
  go_wp2_with
    (first
      | (show wpList _ _ _ ({ dst := some 15, op := Op.load _ _, type := _, pos := _, after := _, guard := _ } :: _) _ _; refine wpList_load_mid rfl 36 (.tmp 2) rfl w.heap.size 0 rfl [.slice A N c, .slice D M d, .int .u64 nx, .int .u64 fl] _ HX.out.range Try.underlying36 rfl (by kernel_rfl) ?_)
      | (go_at_call 15; refine HSM.out.mono ?_; rw [hsm]; rintro e w1 ⟨rfl, hb1⟩; have HB1 := Lib.hid (HB.out.trans (hb1.mono HB.out.size)); have HX1 := Lib.hid (HX.out.below hb1 HX.out.lt); clear hb1)
      | (go_at_call 11; refine (shown_any _).mono ?_; rintro e w2 ⟨rfl, hb2⟩; have HB2 := Lib.hid (HB1.out.trans (hb2.mono HB1.out.size)); have HX2 := Lib.hid (HX1.out.below hb2 HX1.out.lt); clear hb2))
  go_ret
  exact ⟨rfl, HB2.out⟩
theorem decM_len (t : ByteArray) : (decM t).add.length ≤ 255 ∧ (decM t).del.length ≤ 255 := by
  rw [dec_eq]
  rcases decR_cases t with h | ⟨nx, fl, F, G, hx, hf, he, hd⟩
  · rw [h]
    exact ⟨Nat.zero_le _, Nat.zero_le _⟩
  · rw [hd]
    exact ⟨(encE_zero he).2.1, (encE_zero he).2.2.1⟩
theorem encE_size {nx fl : Nat} {add : List Fi} {del : List ByteArray} {S : ByteArray} {E : Int} (h : encE nx fl add del = (S, E)) (h1 : add.length ≤ 40) (h2 : del.length ≤ 40) : S.size ≤ 100000 := by
  by_cases hE : E = 0
  · subst hE
    obtain ⟨hb, _, _, rfl⟩ := encE_zero h
    have := cat_size (partsE nx fl add del) 60 (partsE_size hb)
    rw [partsE_len] at this
    unfold encB
    omega
  · rw [enc_fail h hE]
    exact Nat.zero_le _
set_option maxRecDepth 20000 in
set_option maxHeartbeats 8000000 in
theorem bytes_any (A D : Option Addr) (c d N M : Nat) (add : List Fi) (del : List ByteArray) (nx fl : Nat) (t : ByteArray) (w : World) (hA : Rd w w.heap.size A (fis add)) (hD : Rd w w.heap.size D (del.map Value.string)) (hN : add.length = N) (hM : del.length = M) (hn : N ≤ maxLen) (hm : M ≤ maxLen) (hnx : nx < 18446744073709551616) (hfl : fl < 18446744073709551616) (hsm : smallE add del = true) (ht : t.size ≤ 600) :
    Calls Try.prog 8 #[.agg #[.slice A N c, .slice D M d, .int .u64 nx, .int .u64 fl], .string t] w fun e w' => e = .returned (.bool true) ∧ Below w.heap.size w w' := by
  have e1 : decide ((600 : Int) < (t.size : Int)) = false := decide_eq_false (by omega)
  obtain ⟨-, hn40, hm40⟩ := smallE_parts hsm
  rw [hN] at hn40
  rw [hM] at hm40
  have hx := EBox.new 36 w A N c D M d nx fl
  have hb := below_al w (.cells #[.slice A N c, .slice D M d, .int .u64 nx, .int .u64 fl] 36)
  obtain ⟨W0, hW0⟩ : ∃ W0, w.alloc (.cells #[.slice A N c, .slice D M d, .int .u64 nx, .int .u64 fl] 36) = W0 := ⟨_, rfl⟩
  rw [hW0] at hx hb
  have HX := Lib.hid hx
  have HB := Lib.hid hb
  have HA := Lib.hid hA
  have HD := Lib.hid hD
  have HN := Lib.hid hN
  have HM := Lib.hid hM
  have HSM := Lib.hid (small_any A D c d N M add del nx fl W0 ((hA.below hb).more hb.size) ((hD.below hb).more hb.size) hN hM hn hm)
  clear hx hb hA hD hN hM
  obtain ⟨⟨S, E⟩, hS⟩ : ∃ p, encE nx fl add del = p := ⟨_, rfl⟩
  have HEN := Lib.hid hS
  have hsz := encE_size hS (by rw [HN.out]; omega) (by rw [HM.out]; omega)
  have hge := dec_eq t
  obtain ⟨⟨x5, y5, F5, G5, E5⟩, hdm⟩ : ∃ r, decM t = r := ⟨_, rfl⟩
  rw [hdm] at hge
  have HDM := Lib.hid hdm
  have HDR := Lib.hid hge.symm
  clear hS hge hdm
  go_enter Try.func8, Try.ntmps8
  go_upto_region 3 with
    (first
      | (show wpList _ _ _ ({ dst := some 15, op := Op.load _ _, type := _, pos := _, after := _, guard := _ } :: _) _ _; refine wpList_load_mid rfl 36 (.tmp 2) rfl w.heap.size 0 rfl [.slice A N c, .slice D M d, .int .u64 nx, .int .u64 fl] _ HX.out.range Try.underlying36 rfl (by kernel_rfl) ?_)
      | (go_at_call 15; refine HSM.out.mono ?_; rw [hsm]; rintro e w1 ⟨rfl, hb1⟩; have HB1 := Lib.hid (HB.out.trans (hb1.mono HB.out.size)); have HX1 := Lib.hid (HX.out.below hb1 HX.out.lt); clear hb1)
      | (go_at_call 11; refine (shown_any _).mono ?_; rintro e w2 ⟨rfl, hb2⟩; have HB2 := Lib.hid (HB1.out.trans (hb2.mono HB1.out.size)); have HX2 := Lib.hid (HX1.out.below hb2 HX1.out.lt); clear hb2))
  clear e1 hsm HSM
  have hl5 := decM_len t
  rw [HDM.out] at hl5
  simp only at hl5
  obtain ⟨l5, l6⟩ := hl5
  have HDCM := Lib.hid (fun W => by have := decode_any t W (by omega); rw [HDM.out] at this; exact this)
  have HDCR := Lib.hid (fun W => by have := refDecode_any t W (by omega); rw [HDR.out] at this; exact this)
  go_upto_region 7 with (first
    | (show wpList _ _ _ ({ dst := none, op := Op.store _ (Operand.tmp 11) _, type := _, pos := _, after := _, guard := _ } :: _) _ _; refine wpList_store_mid rfl 49 (.tmp 11) (.tmp 47) rfl w8.heap.size 0 (edN A6 n6 c6 D6 m6 d6 x5 y5) rfl rfl (there_made4 _ _ _ _ _ _) (by kernel_rfl) (edN_one _ _ _ _ _ _ _ _) ?_; refine EBox.madeW 49 w8 _ _ _ _ A6 n6 c6 D6 m6 d6 x5 y5 ?_; intro w9 HE9 HB9)
    | (go_at_call 25; have hq := HB7.out; refine (HDCR.out _).mono ?_; rintro e w8 ⟨A6, D6, n6, c6, m6, d6, rfl, hra, hrd, hln, hlm, hb⟩; have HB8 := Lib.hid hb; have HA6 := Lib.hid hra; have HD6 := Lib.hid hrd; have HL6 := Lib.hid (And.intro hln hlm); clear hra hrd hln hlm hb hq)
    | (show wpList _ _ _ ({ dst := none, op := Op.store _ (Operand.tmp 9) _, type := _, pos := _, after := _, guard := _ } :: _) _ _; refine wpList_store_mid rfl 36 (.tmp 9) (.tmp 42) rfl w6.heap.size 0 (edN A5 n5 c5 D5 m5 d5 x5 y5) rfl rfl (there_made4 _ _ _ _ _ _) (by kernel_rfl) (edN_one _ _ _ _ _ _ _ _) ?_; refine EBox.madeW 36 w6 _ _ _ _ A5 n5 c5 D5 m5 d5 x5 y5 ?_; intro w7 HE7 HB7)
    | (go_at_call 24; refine (HDCM.out _).mono ?_; rintro e w6 ⟨A5, D5, n5, c5, m5, d5, rfl, hra, hrd, hln, hlm, hb⟩; have HB6 := Lib.hid (HB5.out.trans (hb.mono HB5.out.size)); have HX6 := Lib.hid (HX5.out.below hb HX5.out.lt); have HA5 := Lib.hid hra; have HD5 := Lib.hid hrd; have HL5 := Lib.hid (And.intro hln hlm); clear hra hrd hln hlm hb)
    | (go_at_call 23; have hq := HB4.out; refine (refEncode_any B4 D q4 d N M add del nx fl _ HR4.out ((HD.out.below hq).more hq.size) HN.out HM.out (by omega) (by omega) hnx hfl HEN.out).mono ?_; rintro e w5 ⟨rfl, hb⟩; have HB5 := Lib.hid (hq.trans (hb.mono hq.size)); have HX5 := Lib.hid (HX4.out.below hb HX4.out.lt); clear hb hq)
    | (go_at_call 17; have hq := HB3.out; refine (edit_rd ((HA.out.below hq).more hq.size) HN.out (by omega) _ (Below.refl _ _)).mono ?_; rintro e w4 ⟨B4, q4, rfl, hr, hb⟩; have HR4 := Lib.hid hr; have HB4 := Lib.hid (hq.trans (hb.mono hq.size)); have HX4 := Lib.hid (HX3.out.below hb HX3.out.lt); clear hb hr hq)
    | (show wpList _ _ _ ({ dst := some 34, op := Op.load _ _, type := _, pos := _, after := _, guard := _ } :: _) _ _; refine wpList_load_mid rfl 36 (.tmp 2) rfl w.heap.size 0 rfl [.slice A N c, .slice D M d, .int .u64 nx, .int .u64 fl] _ HX3.out.range Try.underlying36 rfl (by kernel_rfl) ?_)
    | (go_at_call 22; have hq := HB2.out; refine (encode_any A D c d N M add del nx fl _ ((HA.out.below hq).more hq.size) ((HD.out.below hq).more hq.size) HN.out HM.out (by omega) (by omega) HEN.out).mono ?_; rintro e w3 ⟨rfl, hb⟩; have HB3 := Lib.hid (hq.trans (hb.mono hq.size)); have HX3 := Lib.hid (HX2.out.below hb HX2.out.lt); clear hb hq)
    | (show wpList _ _ _ ({ dst := some 29, op := Op.load _ _, type := _, pos := _, after := _, guard := _ } :: _) _ _; refine wpList_load_mid rfl 36 (.tmp 2) rfl w.heap.size 0 rfl [.slice A N c, .slice D M d, .int .u64 nx, .int .u64 fl] _ HX2.out.range Try.underlying36 rfl (by kernel_rfl) ?_))
  obtain rfl : n6 = n5 := HL6.out.1.symm.trans HL5.out.1
  obtain rfl : m6 = m5 := HL6.out.2.symm.trans HL5.out.2
  have hn5 : n6 ≤ 255 := by have h := HL5.out.1; have h' : F5.length = n6 := h; omega
  have hm5 : m6 ≤ 255 := by have h := HL5.out.2; have h' : G5.length = m6 := h; omega
  have hrA5 := ((HA5.out.below HB7.out).more HB7.out.size)
  have hrD5 := ((HD5.out.below HB7.out).more HB7.out.size)
  have HRA5 := Lib.hid (((hrA5.below HB8.out).more HB8.out.size))
  have HRD5 := Lib.hid (((hrD5.below HB8.out).more HB8.out.size))
  have HGA5 := Lib.hid (((HRA5.out.below HB9.out).more HB9.out.size))
  have HGD5 := Lib.hid (((HRD5.out.below HB9.out).more HB9.out.size))
  have HGA6 := Lib.hid (((HA6.out.below HB9.out).more HB9.out.size))
  have HGD6 := Lib.hid (((HD6.out.below HB9.out).more HB9.out.size))
  have HG9 := Lib.hid (((HE7.out.below HB8.out HE7.out.lt).below HB9.out (Nat.lt_of_lt_of_le HE7.out.lt HB8.out.size)))
  have HBL := Lib.hid (HB6.out.trans ((HB7.out.mono HB6.out.size).trans ((HB8.out.mono (Nat.le_trans HB6.out.size HB7.out.size)).trans (HB9.out.mono (Nat.le_trans HB6.out.size (Nat.le_trans HB7.out.size HB8.out.size))))))
  have HXE := Lib.hid (((HX6.out.below HB7.out HX6.out.lt).below HB8.out (Nat.lt_of_lt_of_le HX6.out.lt HB7.out.size)).below HB9.out (Nat.lt_of_lt_of_le HX6.out.lt (Nat.le_trans HB7.out.size HB8.out.size)))
  have HED := Lib.hid (fun W (hb : Below w9.heap.size w9 W) => edit_rd (D := D5) (cd := d5) (nd := m6) (nx := (x5 : Int)) (fl := (y5 : Int)) (c := c5) HGA5.out (show F5.length = n6 from HL5.out.1) (by omega) W hb)
  have HSE := Lib.hid (fun W (B : Option Addr) (q : Nat) (hb : Below w9.heap.size w9 W) (hr : Rd W W.heap.size B (fis F5)) => sameEdit_any B A6 D5 D6 q c6 d5 d6 n6 m6 F5 G5 x5 y5 W hr ((HGA6.out.below hb).more hb.size) ((HGD5.out.below hb).more hb.size) ((HGD6.out.below hb).more hb.size) (show F5.length = n6 from HL5.out.1) (show G5.length = m6 from HL5.out.2) (by omega) (by omega))
  obtain ⟨g9, hg9⟩ : ∃ g, w6.heap.size = g := ⟨_, rfl⟩
  obtain ⟨g11, hg11⟩ : ∃ g, w8.heap.size = g := ⟨_, rfl⟩
  obtain ⟨CC, hCD⟩ : ∃ CC : World → Prop, ∀ W, CC W ↔ Below w9.heap.size w9 W := ⟨fun W => Below w9.heap.size w9 W, fun W => Iff.rfl⟩
  have hmk : ∀ W, Below w9.heap.size w9 W → W.rangeAt w6.heap.size 0 [.slice A5 n6 c5, .slice D5 m6 d5, .int .u64 x5, .int .u64 y5] ∧ W.rangeAt w8.heap.size 0 [.slice A6 n6 c6, .slice D6 m6 d6, .int .u64 x5, .int .u64 y5] ∧ CC W := fun W hb => ⟨(HG9.out.below hb HG9.out.lt).range, (HE9.out.below hb HE9.out.lt).range, (hCD W).2 hb⟩
  have HBZ := Lib.hid ((Below.refl w9.heap.size w9).drew)
  have HC := hmk _ HBZ.out
  clear hrA5 hrD5 HRA5 HRD5 HA5 HD5 HA6 HD6 HE7 HB7 HB8 HB9 HDCM HDCR HB6 HB5 HX5 HX4 HX3 HB4 HB3 HR4 HX2 HB2 HX1 HB1 HX6
  refine region_wz (fun W => W.rangeAt w6.heap.size 0 [.slice A5 n6 c5, .slice D5 m6 d5, .int .u64 x5, .int .u64 y5] ∧ W.rangeAt w8.heap.size 0 [.slice A6 n6 c6, .slice D6 m6 d6, .int .u64 x5, .int .u64 y5] ∧ CC W) none (by kernel_rfl) ?_
  apply WZ.take (i := 0) (some 49) rfl rfl (by kernel_rfl) (by kernel_rfl) (by kernel_rfl) (calm_panic _) (by kernel_rfl)
  case hy => (refine .inl ⟨by kernel_rfl, fun W hC => ?_⟩; (try dsimp only at hC); go_simp; (try simp only [bne_self_eq_false]); rfl)
  case hC => exact HC
  case ha => (simp only [Act.put, List.setIfInBounds_toArray, List.set_cons_zero, List.set_cons_succ]; rfl)
  apply WZ.take (i := 1) (some 50) rfl rfl (by kernel_rfl) (by kernel_rfl) (by kernel_rfl) (calm_panic _) (by kernel_rfl)
  case hy => (refine .inl ⟨by kernel_rfl, fun W hC => ?_⟩; (try dsimp only at hC); go_simp; (try simp only [bne_self_eq_false]); rfl)
  case hC => exact HC
  case ha => (simp only [Act.put, List.setIfInBounds_toArray, List.set_cons_zero, List.set_cons_succ]; rfl)
  apply WZ.take (i := 2) (some 51) rfl rfl (by kernel_rfl) (by kernel_rfl) (by kernel_rfl) (calm_panic _) (by kernel_rfl)
  case hy => (refine .inl ⟨by kernel_rfl, fun W hC => ?_⟩; (try dsimp only at hC); go_simp; (try simp only [bne_self_eq_false]); rfl)
  case hC => exact HC
  case ha => (simp only [Act.put, List.setIfInBounds_toArray, List.set_cons_zero, List.set_cons_succ]; rfl)
  apply WZ.take (i := 3) (some 52) rfl rfl (by kernel_rfl) (by kernel_rfl) (by kernel_rfl) (calm_panic _) (by kernel_rfl)
  case hy => (refine .inl ⟨by kernel_rfl, fun W hC => ?_⟩; (try dsimp only at hC); go_simp; (try simp only [bne_self_eq_false]); rfl)
  case hC => exact HC
  case ha => (simp only [Act.put, List.setIfInBounds_toArray, List.set_cons_zero, List.set_cons_succ]; rfl)
  apply WZ.take (i := 4) (some 53) rfl rfl (by kernel_rfl) (by kernel_rfl) (by kernel_rfl) (calm_panic _) (by kernel_rfl)
  case hy => (refine .inl ⟨by kernel_rfl, fun W hC => ?_⟩; (try dsimp only at hC); go_simp; (try simp only [bne_self_eq_false]); rfl)
  case hC => exact HC
  case ha => (simp only [Act.put, List.setIfInBounds_toArray, List.set_cons_zero, List.set_cons_succ]; rfl)
  apply WZ.take (i := 5) (some 54) rfl rfl (by kernel_rfl) (by kernel_rfl) (by kernel_rfl) (calm_panic _) (by kernel_rfl)
  case hy => (refine .inl ⟨by kernel_rfl, fun W hC => ?_⟩; (try dsimp only at hC); go_simp; (try simp only [bne_self_eq_false]); rfl)
  case hC => exact HC
  case ha => (simp only [Act.put, List.setIfInBounds_toArray, List.set_cons_zero, List.set_cons_succ]; rfl)
  apply WZ.take (i := 6) (some 55) rfl rfl (by kernel_rfl) (by kernel_rfl) (by kernel_rfl) (calm_panic _) (by kernel_rfl)
  case hy => (refine .inl ⟨by kernel_rfl, fun W hC => ?_⟩; (try dsimp only at hC); go_simp; (try simp only [bne_self_eq_false]); rfl)
  case hC => exact HC
  case ha => (simp only [Act.put, List.setIfInBounds_toArray, List.set_cons_zero, List.set_cons_succ]; rfl)
  apply WZ.take (i := 7) (some 56) rfl rfl (by kernel_rfl) (by kernel_rfl) (by kernel_rfl) (calm_panic _) (by kernel_rfl)
  case hy => (refine .inl ⟨by kernel_rfl, fun W hC => ?_⟩; (try dsimp only at hC); go_simp; (try simp only [bne_self_eq_false]); rfl)
  case hC => exact HC
  case ha => (simp only [Act.put, List.setIfInBounds_toArray, List.set_cons_zero, List.set_cons_succ]; rfl)
  apply WZ.take (i := 8) (some 57) rfl rfl (by kernel_rfl) (by kernel_rfl) (by kernel_rfl) (calm_panic _) (by kernel_rfl)
  case hy => (refine .inl ⟨by kernel_rfl, fun W hC => ?_⟩; (try dsimp only at hC); go_simp; (try simp only [bne_self_eq_false]); rfl)
  case hC => exact HC
  case ha => (simp only [Act.put, List.setIfInBounds_toArray, List.set_cons_zero, List.set_cons_succ]; rfl)
  apply WZ.take (i := 9) (some 58) rfl rfl (by kernel_rfl) (by kernel_rfl) (by kernel_rfl) (calm_panic _) (by kernel_rfl)
  case hy => first | (apply yieldsIf_load_mid (by kernel_rfl) _ _ rfl _ _ rfl; (case hS => (intro W hC; exact hC.1)); (case hu => exact Try.underlying36); (case hd => rfl); (case hi => kernel_rfl)) | (apply yieldsIf_load_mid (by kernel_rfl) _ _ rfl _ _ rfl; (case hS => (intro W hC; exact hC.2.1)); (case hu => exact Try.underlying36); (case hd => rfl); (case hi => kernel_rfl)) | (apply yieldsIf_load_mid (by kernel_rfl) _ _ rfl _ _ rfl; (case hS => (intro W hC; exact hC.2.2.1)); (case hu => exact Try.underlying36); (case hd => rfl); (case hi => kernel_rfl)) | (apply yieldsIf_load_mid (by kernel_rfl) _ _ rfl _ _ rfl; (case hS => (intro W hC; exact hC.2.2.2.1)); (case hu => exact Try.underlying36); (case hd => rfl); (case hi => kernel_rfl)) | (apply yieldsIf_load_mid (by kernel_rfl) _ _ rfl _ _ rfl; (case hS => (intro W hC; exact hC.2.2.2)); (case hu => exact Try.underlying36); (case hd => rfl); (case hi => kernel_rfl)) | (apply yieldsIf_load_mid (by kernel_rfl) _ _ rfl _ _ rfl; (case hS => (intro W hC; exact hC.2.2)); (case hu => exact Try.underlying36); (case hd => rfl); (case hi => kernel_rfl)) | (apply yieldsIf_load_mid (by kernel_rfl) _ _ rfl _ _ rfl; (case hS => (intro W hC; exact hC.2)); (case hu => exact Try.underlying36); (case hd => rfl); (case hi => kernel_rfl)) | (apply yieldsIf_load_mid (by kernel_rfl) _ _ rfl _ _ rfl; (case hS => (intro W hC; exact hC)); (case hu => exact Try.underlying36); (case hd => rfl); (case hi => kernel_rfl))
  case hC => exact HC
  case ha => (simp only [Act.put, List.setIfInBounds_toArray, List.set_cons_zero, List.set_cons_succ]; rfl)
  apply WZ.take (i := 11) (some 60) rfl rfl (by kernel_rfl) (by kernel_rfl) (by kernel_rfl) (calm_panic _) (by kernel_rfl)
  case hy => first | (apply yieldsIf_load_mid (by kernel_rfl) _ _ rfl _ _ rfl; (case hS => (intro W hC; exact hC.1)); (case hu => exact Try.underlying49); (case hd => rfl); (case hi => kernel_rfl)) | (apply yieldsIf_load_mid (by kernel_rfl) _ _ rfl _ _ rfl; (case hS => (intro W hC; exact hC.2.1)); (case hu => exact Try.underlying49); (case hd => rfl); (case hi => kernel_rfl)) | (apply yieldsIf_load_mid (by kernel_rfl) _ _ rfl _ _ rfl; (case hS => (intro W hC; exact hC.2.2.1)); (case hu => exact Try.underlying49); (case hd => rfl); (case hi => kernel_rfl)) | (apply yieldsIf_load_mid (by kernel_rfl) _ _ rfl _ _ rfl; (case hS => (intro W hC; exact hC.2.2.2.1)); (case hu => exact Try.underlying49); (case hd => rfl); (case hi => kernel_rfl)) | (apply yieldsIf_load_mid (by kernel_rfl) _ _ rfl _ _ rfl; (case hS => (intro W hC; exact hC.2.2.2)); (case hu => exact Try.underlying49); (case hd => rfl); (case hi => kernel_rfl)) | (apply yieldsIf_load_mid (by kernel_rfl) _ _ rfl _ _ rfl; (case hS => (intro W hC; exact hC.2.2)); (case hu => exact Try.underlying49); (case hd => rfl); (case hi => kernel_rfl)) | (apply yieldsIf_load_mid (by kernel_rfl) _ _ rfl _ _ rfl; (case hS => (intro W hC; exact hC.2)); (case hu => exact Try.underlying49); (case hd => rfl); (case hi => kernel_rfl)) | (apply yieldsIf_load_mid (by kernel_rfl) _ _ rfl _ _ rfl; (case hS => (intro W hC; exact hC)); (case hu => exact Try.underlying49); (case hd => rfl); (case hi => kernel_rfl))
  case hC => exact HC
  case ha => (simp only [Act.put, List.setIfInBounds_toArray, List.set_cons_zero, List.set_cons_succ]; rfl)
  -- 10
  refine WZ.one (i := 10) rfl (by kernel_rfl) ?_
  conv => arg 4; arg 1; whnf
  go_wp2_with (go_at_call 17; refine (HED.out _ HBZ.out).mono ?_; rintro e' w9 ⟨B9, q9, rfl, hr9, hb9⟩; have HR9 := Lib.hid hr9)
  have HBY := Lib.hid (HBZ.out.trans (hb9.mono HBZ.out.size))
  clear HBZ HC hb9 hr9
  have HBZ := HBY
  clear HBY
  have HC := hmk _ HBZ.out
  refine ⟨HC, ?_⟩
  -- 12
  refine WZ.one (i := 12) rfl (by kernel_rfl) ?_
  conv => arg 4; arg 1; whnf
  go_wp2_with (go_at_call 26; refine (HSE.out _ B9 q9 HBZ.out HR9.out).mono ?_; rintro e' w10 ⟨rfl, hb9⟩)
  have HBY := Lib.hid (HBZ.out.trans (hb9.mono HBZ.out.size))
  clear HBZ HC hb9 HR9
  have HBZ := HBY
  clear HBY
  have HC := hmk _ HBZ.out
  refine ⟨HC, ?_⟩
  apply WZ.take (i := 13) (some 62) rfl rfl (by kernel_rfl) (by kernel_rfl) (by kernel_rfl) (calm_panic _) (by kernel_rfl)
  case hy => (refine .inl ⟨by kernel_rfl, fun W hC => ?_⟩; (try dsimp only at hC); go_simp; (try simp only [bne_self_eq_false]); rfl)
  case hC => exact HC
  case ha => (simp only [Act.put, List.setIfInBounds_toArray, List.set_cons_zero, List.set_cons_succ]; rfl)
  apply WZ.take (i := 14) (some 63) rfl rfl (by kernel_rfl) (by kernel_rfl) (by kernel_rfl) (calm_panic _) (by kernel_rfl)
  case hy => (refine .inl ⟨by kernel_rfl, fun W hC => ?_⟩; (try dsimp only at hC); go_simp; (try simp only [bne_self_eq_false]); rfl)
  case hC => exact HC
  case ha => (simp only [Act.put, List.setIfInBounds_toArray, List.set_cons_zero, List.set_cons_succ]; rfl)
  apply WZ.take (i := 15) (some 64) rfl rfl (by kernel_rfl) (by kernel_rfl) (by kernel_rfl) (calm_panic _) (by kernel_rfl)
  case hy => (refine .inl ⟨by kernel_rfl, fun W hC => ?_⟩; (try dsimp only at hC); go_simp; (try simp only [bne_self_eq_false]); rfl)
  case hC => exact HC
  case ha => (simp only [Act.put, List.setIfInBounds_toArray, List.set_cons_zero, List.set_cons_succ]; rfl)
  apply WZ.take (i := 16) (some 65) rfl rfl (by kernel_rfl) (by kernel_rfl) (by kernel_rfl) (calm_panic _) (by kernel_rfl)
  case hy => (refine .inl ⟨by kernel_rfl, fun W hC => ?_⟩; (try dsimp only at hC); go_simp; (try simp only [bne_self_eq_false]); rfl)
  case hC => exact HC
  case ha => (simp only [Act.put, List.setIfInBounds_toArray, List.set_cons_zero, List.set_cons_succ]; rfl)
  apply WZ.take (i := 17) (some 66) rfl rfl (by kernel_rfl) (by kernel_rfl) (by kernel_rfl) (calm_panic _) (by kernel_rfl)
  case hy => (refine .inl ⟨by kernel_rfl, fun W hC => ?_⟩; (try dsimp only at hC); go_simp; (try simp only [bne_self_eq_false]); rfl)
  case hC => exact HC
  case ha => (simp only [Act.put, List.setIfInBounds_toArray, List.set_cons_zero, List.set_cons_succ]; rfl)
  apply WZ.take (i := 18) (some 67) rfl rfl (by kernel_rfl) (by kernel_rfl) (by kernel_rfl) (calm_panic _) (by kernel_rfl)
  case hy => (refine .inl ⟨by kernel_rfl, fun W hC => ?_⟩; (try dsimp only at hC); go_simp; (try simp only [bne_self_eq_false]); rfl)
  case hC => exact HC
  case ha => (simp only [Act.put, List.setIfInBounds_toArray, List.set_cons_zero, List.set_cons_succ]; rfl)
  apply WZ.take (i := 19) (some 68) rfl rfl (by kernel_rfl) (by kernel_rfl) (by kernel_rfl) (calm_panic _) (by kernel_rfl)
  case hy => (refine .inl ⟨by kernel_rfl, fun W hC => ?_⟩; (try dsimp only at hC); go_simp; (try simp only [bne_self_eq_false]); rfl)
  case hC => exact HC
  case ha => (simp only [Act.put, List.setIfInBounds_toArray, List.set_cons_zero, List.set_cons_succ]; rfl)
  refine WZ.done (by kernel_rfl) ?_ _
  simp only [Calm, Exit.then]
  have HBK := Lib.hid (HBL.out.trans (HBZ.out.mono HBL.out.size))
  have HXK := Lib.hid (HXE.out.below HBZ.out HXE.out.lt)
  clear HC hmk hCD HBZ HED HSE HBL HXE HG9 HE9 HGA5 HGD5 HGA6 HGD6
  by_cases hE : E = 0
  · have hne : (E != 0) = false := by simp [hE]
    have hEN := HEN.out
    rw [hE] at hEN
    have hde := dec_enc hnx hfl hEN
    have HDS := Lib.hid (fun W => by have := decode_any S W (by omega); rw [hde] at this; exact this)
    clear hEN hde
    go_upto_region 12 with (first
      | (show wpList _ _ _ ({ dst := none, op := Op.store _ (Operand.tmp 13) _, type := _, pos := _, after := _, guard := _ } :: _) _ _; refine wpList_store_mid rfl 36 (.tmp 13) (.tmp 76) rfl w11.heap.size 0 (edN A7 n7 c7 D7 m7 d7 nx fl) rfl rfl (there_made4 _ _ _ _ _ _) (by kernel_rfl) (edN_one _ _ _ _ _ _ _ _) ?_; refine EBox.madeW 36 w11 _ _ _ _ A7 n7 c7 D7 m7 d7 nx fl ?_; intro w12 HE12 HB12)
      | (go_at_call 24; refine (HDS.out _).mono ?_; rintro e w11 ⟨A7, D7, n7, c7, m7, d7, rfl, hra, hrd, hln, hlm, hb⟩; have HB11 := Lib.hid (HBK.out.trans (hb.mono HBK.out.size)); have HX11 := Lib.hid (HXK.out.below hb HXK.out.lt); have HA7 := Lib.hid hra; have HD7 := Lib.hid hrd; have HL7 := Lib.hid (And.intro hln hlm); clear hra hrd hln hlm hb))
    obtain rfl : n7 = N := HL7.out.1.symm.trans HN.out
    obtain rfl : m7 = M := HL7.out.2.symm.trans HM.out
    have HG12A := Lib.hid (((HA7.out.below HB12.out).more HB12.out.size))
    have HG12D := Lib.hid (((HD7.out.below HB12.out).more HB12.out.size))
    have HBQ := Lib.hid (HB11.out.trans (HB12.out.mono HB11.out.size))
    have HXQ := Lib.hid (HX11.out.below HB12.out HX11.out.lt)
    have HGA := Lib.hid ((HA.out.below HBQ.out).more HBQ.out.size)
    have HGD := Lib.hid ((HD.out.below HBQ.out).more HBQ.out.size)
    have HED7 := Lib.hid (fun W (hb : Below w12.heap.size w12 W) => edit_rd (D := D7) (cd := d7) (nd := m7) (nx := (nx : Int)) (fl := (fl : Int)) (c := c7) HG12A.out (show add.length = n7 from HN.out) (by omega) W hb)
    have HEDE := Lib.hid (fun W (hb : Below w12.heap.size w12 W) => edit_rd (D := D) (cd := d) (nd := m7) (nx := (nx : Int)) (fl := (fl : Int)) (c := c) HGA.out (show add.length = n7 from HN.out) (by omega) W hb)
    have HSE := Lib.hid (fun W (B B' : Option Addr) (q q' : Nat) (hb : Below w12.heap.size w12 W) (hr : Rd W W.heap.size B (fis add)) (hr' : Rd W W.heap.size B' (fis add)) => sameEdit_any B B' D7 D q q' d7 d n7 m7 add del nx fl W hr hr' ((HG12D.out.below hb).more hb.size) ((HGD.out.below hb).more hb.size) HN.out HM.out (by omega) (by omega))
    obtain ⟨CC, hCD⟩ : ∃ CC : World → Prop, ∀ W, CC W ↔ Below w12.heap.size w12 W := ⟨fun W => Below w12.heap.size w12 W, fun W => Iff.rfl⟩
    have hmk : ∀ W, Below w12.heap.size w12 W → W.rangeAt w11.heap.size 0 [.slice A7 n7 c7, .slice D7 m7 d7, .int .u64 nx, .int .u64 fl] ∧ W.rangeAt w.heap.size 0 [.slice A n7 c, .slice D m7 d, .int .u64 nx, .int .u64 fl] ∧ CC W := fun W hb => ⟨(HE12.out.below hb HE12.out.lt).range, (HXQ.out.below hb HXQ.out.lt).range, (hCD W).2 hb⟩
    have HBZ := Lib.hid ((Below.refl w12.heap.size w12).drew)
    have HC := hmk _ HBZ.out
    clear HA7 HD7 HB11 HX11 HB12 HXK HBK HDS
    refine region_wz (fun W => W.rangeAt w11.heap.size 0 [.slice A7 n7 c7, .slice D7 m7 d7, .int .u64 nx, .int .u64 fl] ∧ W.rangeAt w.heap.size 0 [.slice A n7 c, .slice D m7 d, .int .u64 nx, .int .u64 fl] ∧ CC W) none (by kernel_rfl) ?_
    apply WZ.take (i := 0) (some 78) rfl rfl (by kernel_rfl) (by kernel_rfl) (by kernel_rfl) (calm_panic _) (by kernel_rfl)
    case hy => (refine .inl ⟨by kernel_rfl, fun W hC => ?_⟩; (try dsimp only at hC); go_simp; rfl)
    case hC => exact HC
    case ha => (simp only [Act.put, List.setIfInBounds_toArray, List.set_cons_zero, List.set_cons_succ]; rfl)
    apply WZ.take (i := 1) (some 79) rfl rfl (by kernel_rfl) (by kernel_rfl) (by kernel_rfl) (calm_panic _) (by kernel_rfl)
    case hy => (refine .inl ⟨by kernel_rfl, fun W hC => ?_⟩; (try dsimp only at hC); go_simp; rfl)
    case hC => exact HC
    case ha => (simp only [Act.put, List.setIfInBounds_toArray, List.set_cons_zero, List.set_cons_succ]; rfl)
    apply WZ.take (i := 2) (some 80) rfl rfl (by kernel_rfl) (by kernel_rfl) (by kernel_rfl) (calm_panic _) (by kernel_rfl)
    case hy => (refine .inl ⟨by kernel_rfl, fun W hC => ?_⟩; (try dsimp only at hC); go_simp; rfl)
    case hC => exact HC
    case ha => (simp only [Act.put, List.setIfInBounds_toArray, List.set_cons_zero, List.set_cons_succ]; rfl)
    apply WZ.take (i := 3) (some 81) rfl rfl (by kernel_rfl) (by kernel_rfl) (by kernel_rfl) (calm_panic _) (by kernel_rfl)
    case hy => first | (apply yieldsIf_load_mid (by kernel_rfl) _ _ rfl _ _ rfl; (case hS => (intro W hC; exact hC.1)); (case hu => exact Try.underlying36); (case hd => rfl); (case hi => kernel_rfl)) | (apply yieldsIf_load_mid (by kernel_rfl) _ _ rfl _ _ rfl; (case hS => (intro W hC; exact hC.2.1)); (case hu => exact Try.underlying36); (case hd => rfl); (case hi => kernel_rfl)) | (apply yieldsIf_load_mid (by kernel_rfl) _ _ rfl _ _ rfl; (case hS => (intro W hC; exact hC.2.2.1)); (case hu => exact Try.underlying36); (case hd => rfl); (case hi => kernel_rfl)) | (apply yieldsIf_load_mid (by kernel_rfl) _ _ rfl _ _ rfl; (case hS => (intro W hC; exact hC.2.2.2.1)); (case hu => exact Try.underlying36); (case hd => rfl); (case hi => kernel_rfl)) | (apply yieldsIf_load_mid (by kernel_rfl) _ _ rfl _ _ rfl; (case hS => (intro W hC; exact hC.2.2.2)); (case hu => exact Try.underlying36); (case hd => rfl); (case hi => kernel_rfl)) | (apply yieldsIf_load_mid (by kernel_rfl) _ _ rfl _ _ rfl; (case hS => (intro W hC; exact hC.2.2)); (case hu => exact Try.underlying36); (case hd => rfl); (case hi => kernel_rfl)) | (apply yieldsIf_load_mid (by kernel_rfl) _ _ rfl _ _ rfl; (case hS => (intro W hC; exact hC.2)); (case hu => exact Try.underlying36); (case hd => rfl); (case hi => kernel_rfl)) | (apply yieldsIf_load_mid (by kernel_rfl) _ _ rfl _ _ rfl; (case hS => (intro W hC; exact hC)); (case hu => exact Try.underlying36); (case hd => rfl); (case hi => kernel_rfl))
    case hC => exact HC
    case ha => (simp only [Act.put, List.setIfInBounds_toArray, List.set_cons_zero, List.set_cons_succ]; rfl)
    apply WZ.take (i := 5) (some 83) rfl rfl (by kernel_rfl) (by kernel_rfl) (by kernel_rfl) (calm_panic _) (by kernel_rfl)
    case hy => first | (apply yieldsIf_load_mid (by kernel_rfl) _ _ rfl _ _ rfl; (case hS => (intro W hC; exact hC.1)); (case hu => exact Try.underlying36); (case hd => rfl); (case hi => kernel_rfl)) | (apply yieldsIf_load_mid (by kernel_rfl) _ _ rfl _ _ rfl; (case hS => (intro W hC; exact hC.2.1)); (case hu => exact Try.underlying36); (case hd => rfl); (case hi => kernel_rfl)) | (apply yieldsIf_load_mid (by kernel_rfl) _ _ rfl _ _ rfl; (case hS => (intro W hC; exact hC.2.2.1)); (case hu => exact Try.underlying36); (case hd => rfl); (case hi => kernel_rfl)) | (apply yieldsIf_load_mid (by kernel_rfl) _ _ rfl _ _ rfl; (case hS => (intro W hC; exact hC.2.2.2.1)); (case hu => exact Try.underlying36); (case hd => rfl); (case hi => kernel_rfl)) | (apply yieldsIf_load_mid (by kernel_rfl) _ _ rfl _ _ rfl; (case hS => (intro W hC; exact hC.2.2.2)); (case hu => exact Try.underlying36); (case hd => rfl); (case hi => kernel_rfl)) | (apply yieldsIf_load_mid (by kernel_rfl) _ _ rfl _ _ rfl; (case hS => (intro W hC; exact hC.2.2)); (case hu => exact Try.underlying36); (case hd => rfl); (case hi => kernel_rfl)) | (apply yieldsIf_load_mid (by kernel_rfl) _ _ rfl _ _ rfl; (case hS => (intro W hC; exact hC.2)); (case hu => exact Try.underlying36); (case hd => rfl); (case hi => kernel_rfl)) | (apply yieldsIf_load_mid (by kernel_rfl) _ _ rfl _ _ rfl; (case hS => (intro W hC; exact hC)); (case hu => exact Try.underlying36); (case hd => rfl); (case hi => kernel_rfl))
    case hC => exact HC
    case ha => (simp only [Act.put, List.setIfInBounds_toArray, List.set_cons_zero, List.set_cons_succ]; rfl)
    -- 4
    refine WZ.one (i := 4) rfl (by kernel_rfl) ?_
    conv => arg 4; arg 1; whnf
    go_wp2_with (go_at_call 17; refine (HED7.out _ HBZ.out).mono ?_; rintro e' w13 ⟨B9, q9, rfl, hr9, hb9⟩; have HR9 := Lib.hid hr9; clear hr9)
    have HBY := Lib.hid (HBZ.out.trans (hb9.mono HBZ.out.size))
    clear HBZ HC hb9
    have HBZ := HBY
    clear HBY
    have HC := hmk _ HBZ.out
    refine ⟨HC, ?_⟩
    -- 6
    refine WZ.one (i := 6) rfl (by kernel_rfl) ?_
    conv => arg 4; arg 1; whnf
    go_wp2_with (go_at_call 17; refine (HEDE.out _ HBZ.out).mono ?_; rintro e' w14 ⟨B8, q8, rfl, hr8, hb9⟩; have HR8 := Lib.hid hr8; clear hr8; have HR9b := Lib.hid ((HR9.out.below hb9).more hb9.size))
    have HBY := Lib.hid (HBZ.out.trans (hb9.mono HBZ.out.size))
    clear HBZ HC hb9
    have HBZ := HBY
    clear HBY
    have HC := hmk _ HBZ.out
    refine ⟨HC, ?_⟩
    -- 7
    refine WZ.one (i := 7) rfl (by kernel_rfl) ?_
    conv => arg 4; arg 1; whnf
    go_wp2_with (go_at_call 26; refine (HSE.out _ B9 B8 q9 q8 HBZ.out HR9b.out HR8.out).mono ?_; rintro e' w15 ⟨rfl, hb9⟩)
    have HBY := Lib.hid (HBZ.out.trans (hb9.mono HBZ.out.size))
    clear HBZ HC hb9
    have HBZ := HBY
    clear HBY
    have HC := hmk _ HBZ.out
    refine ⟨HC, ?_⟩
    apply WZ.take (i := 8) (some 86) rfl rfl (by kernel_rfl) (by kernel_rfl) (by kernel_rfl) (calm_panic _) (by kernel_rfl)
    case hy => (refine .inl ⟨by kernel_rfl, fun W hC => ?_⟩; (try dsimp only at hC); go_simp; rfl)
    case hC => exact HC
    case ha => (simp only [Act.put, List.setIfInBounds_toArray, List.set_cons_zero, List.set_cons_succ]; rfl)
    apply WZ.take (i := 9) (some 4) rfl rfl (by kernel_rfl) (by kernel_rfl) (by kernel_rfl) (calm_panic _) (by kernel_rfl)
    case hy => (refine .inl ⟨by kernel_rfl, fun W hC => ?_⟩; (try dsimp only at hC); go_simp; rfl)
    case hC => exact HC
    case ha => (simp only [Act.put, List.setIfInBounds_toArray, List.set_cons_zero, List.set_cons_succ]; rfl)
    refine WZ.done (by kernel_rfl) ?_ _
    simp only [Calm, Exit.then]
    have HBF := Lib.hid (HBQ.out.trans (HBZ.out.mono HBQ.out.size))
    clear HC hmk hCD HBZ
    go_wp2
    go_ret
    exact ⟨rfl, HBF.out⟩
  · have hne : (E != 0) = true := by simp [hE]
    have hSe := enc_fail HEN.out hE
    subst hSe
    go_wp2
    go_ret
    exact ⟨rfl, HBK.out⟩
end Go.Proofs.Ytaeemeoffnhgfaa
