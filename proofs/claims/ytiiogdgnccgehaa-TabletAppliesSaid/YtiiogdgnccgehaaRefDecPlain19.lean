/-
  What the reference's Decode reads, plain: the same as the program's. No conditions.
-/
import Derived.Test.YtiiogdgnccgehaaJK
namespace Go.Proofs.Ytiiogdgnccgehaa
open Go.RowKit

/-- the number of n bytes at a; what is missing is 0 -/
def numR (s : ByteArray) (a n : Nat) : Nat := numL ((s.data.toList.drop a).take n)
def byteAt (s : ByteArray) (i : Nat) : Nat := (s.data.toList[i]?.getD 0).toNat
theorem numR_lt (s : ByteArray) (a n : Nat) : numR s a n < 256 ^ n := by
  unfold numR
  refine Nat.lt_of_lt_of_le (numL_lt _) (Nat.pow_le_pow_right (by omega) ?_)
  rw [List.length_take]
  omega
theorem data_app (x y : ByteArray) : (x ++ y).data.toList = x.data.toList ++ y.data.toList := by simp
theorem data_len (x : ByteArray) : x.data.toList.length = x.size := by rw [Array.length_toList]; rfl
theorem numR_app (x y : ByteArray) (i n : Nat) : numR (x ++ y) (x.size + i) n = numR y i n := by
  unfold numR
  rw [data_app, List.drop_append, data_len, List.drop_of_length_le (by rw [data_len]; omega), List.nil_append, Nat.add_sub_cancel_left]
theorem numR_skip (N k : Nat) (y : ByteArray) (i n : Nat) : numR (nb N k ++ y) (k + i) n = numR y i n := by
  have := numR_app (nb N k) y i n
  rw [nb_size] at this
  exact this
theorem numR_nb (k N : Nat) (h : N < 256 ^ k) (r : ByteArray) : numR (nb N k ++ r) 0 k = N := by
  unfold numR
  rw [data_app, List.drop_zero, List.take_append_of_le_length (by rw [data_len, nb_size]; omega), List.take_of_length_le (by rw [data_len, nb_size]; omega), show (nb N k).data.toList = (nbI N k).map byteI from by unfold nb ofL; simp, numL_nbI, Nat.mod_eq_of_lt h]
theorem numR_step (s : ByteArray) (a n : Nat) : numR s a (n + 1) = byteAt s a + 256 * numR s (a + 1) n := by
  unfold numR byteAt
  rcases Nat.lt_or_ge a s.data.toList.length with h | h
  · rw [List.drop_eq_getElem_cons h, List.take_succ_cons, numL, List.getElem?_eq_getElem h]
    rfl
  · rw [List.drop_of_length_le h, List.drop_of_length_le (by omega), List.getElem?_eq_none h]
    simp [numL]
theorem byteAt_app (x y : ByteArray) (i : Nat) : byteAt (x ++ y) (x.size + i) = byteAt y i := by
  unfold byteAt
  rw [data_app, List.getElem?_append_right (by rw [data_len]; omega), data_len, Nat.add_sub_cancel_left]
theorem byteAt_nb (N : Nat) (h : N < 256) (r : ByteArray) : byteAt (nb N 1 ++ r) 0 = N := by
  have h1 := numR_nb 1 N (by omega) r
  rw [numR_step] at h1
  unfold numR at h1
  simp [numL] at h1
  exact h1
theorem ext_app (x y : ByteArray) (i j : Nat) : (x ++ y).extract (x.size + i) (x.size + j) = y.extract i j := by
  rw [ByteArray.extract_append, Nat.add_sub_cancel_left, Nat.add_sub_cancel_left]
  have h : x.extract (x.size + i) (x.size + j) = ⟨#[]⟩ := by
    have hz : (x.extract (x.size + i) (x.size + j)).size = 0 := by rw [ByteArray.size_extract]; omega
    apply ByteArray.ext
    exact Array.eq_empty_of_size_eq_zero hz
  rw [h]
  exact nil_app _
/-- a text with its length ahead -/
def shortR (s : ByteArray) : Option (ByteArray × ByteArray) := if s.size = 0 ∨ s.size < 1 + byteAt s 0 then none else some (s.extract 1 (1 + byteAt s 0), s.extract (1 + byteAt s 0) s.size)
theorem shortR_sh (s r : ByteArray) (h : s.size < 256) : shortR (sh s ++ r) = some (s, r) := by
  unfold shortR sh
  rw [ByteArray.append_assoc, byteAt_nb _ h]
  have hs : (nb s.size 1 ++ (s ++ r)).size = 1 + (s.size + r.size) := by rw [ByteArray.size_append', nb_size, ByteArray.size_append']
  rw [if_neg (by omega), hs]
  have h1 := ext_app (nb s.size 1) (s ++ r) 0 s.size
  have h2 := ext_app (nb s.size 1) (s ++ r) s.size (s.size + r.size)
  rw [nb_size] at h1 h2
  rw [h1, h2, extract_ahead]
  have h3 := extract_behind s r
  rw [ByteArray.size_append'] at h3
  rw [h3]
theorem shortR_size {s x r : ByteArray} (h : shortR s = some (x, r)) : r.size ≤ s.size ∧ x.size ≤ 255 := by
  unfold shortR at h
  split at h
  · cases h
  · injection h with h
    injection h with h1 h2
    subst h1 h2
    have hb : byteAt s 0 < 256 := by unfold byteAt; exact UInt8.toNat_lt _
    rw [ByteArray.size_extract, ByteArray.size_extract]
    omega
/-- the reference's cell -/
def refCellP (s : ByteArray) : Option (Cl × ByteArray) :=
  match shortR s with
  | none => none
  | some (row, s1) => match shortR s1 with
    | none => none
    | some (col, s2) => if s2.size < 17 then none else if 1 < byteAt s2 16 then none else match shortR (s2.extract 17 s2.size) with
      | none => none
      | some (val, s3) => if may ⟨row, col, numR s2 0 8, numR (s2.extract 8 s2.size) 0 8, decide (byteAt s2 16 = 1), val⟩ = true then some (⟨row, col, numR s2 0 8, numR (s2.extract 8 s2.size) 0 8, decide (byteAt s2 16 = 1), val⟩, s3) else none
theorem refCellP_of {c : Cl} (hm : may c = true) (hf : fitsCl c) (r : ByteArray) : refCellP (cellB c ++ r) = some (c, r) := by
  have hs := may_sizes hm
  unfold refCellP cellB
  simp only [ByteArray.append_assoc]
  rw [shortR_sh _ _ (show c.row.size < 256 by omega)]
  simp only
  rw [shortR_sh _ _ (show c.col.size < 256 by omega)]
  simp only
  have hz : (nb c.ts 8 ++ (nb c.seq 8 ++ (flagB c.del ++ (sh c.val ++ r)))).size = 17 + (sh c.val ++ r).size := by
    unfold flagB
    simp only [ByteArray.size_append', nb_size]
    omega
  have e1 : numR (nb c.ts 8 ++ (nb c.seq 8 ++ (flagB c.del ++ (sh c.val ++ r)))) 0 8 = c.ts := numR_nb 8 _ hf.1 _
  have e2 : (nb c.ts 8 ++ (nb c.seq 8 ++ (flagB c.del ++ (sh c.val ++ r)))).extract 8 (nb c.ts 8 ++ (nb c.seq 8 ++ (flagB c.del ++ (sh c.val ++ r)))).size = nb c.seq 8 ++ (flagB c.del ++ (sh c.val ++ r)) := by
    have := extract_behind (nb c.ts 8) (nb c.seq 8 ++ (flagB c.del ++ (sh c.val ++ r)))
    rw [nb_size] at this
    exact this
  have e3 : byteAt (nb c.ts 8 ++ (nb c.seq 8 ++ (flagB c.del ++ (sh c.val ++ r)))) 16 = if c.del then 1 else 0 := by
    have h1 := byteAt_app (nb c.ts 8) (nb c.seq 8 ++ (flagB c.del ++ (sh c.val ++ r))) 8
    have h2 := byteAt_app (nb c.seq 8) (flagB c.del ++ (sh c.val ++ r)) 0
    rw [nb_size] at h1 h2
    rw [h1, h2]
    unfold flagB
    exact byteAt_nb _ (by split <;> omega) _
  have e4 : (nb c.ts 8 ++ (nb c.seq 8 ++ (flagB c.del ++ (sh c.val ++ r)))).extract 17 (nb c.ts 8 ++ (nb c.seq 8 ++ (flagB c.del ++ (sh c.val ++ r)))).size = sh c.val ++ r := by
    have := extract_behind (nb c.ts 8 ++ (nb c.seq 8 ++ flagB c.del)) (sh c.val ++ r)
    rw [show (nb c.ts 8 ++ (nb c.seq 8 ++ flagB c.del)).size = 17 from by unfold flagB; simp only [ByteArray.size_append', nb_size]] at this
    simp only [ByteArray.append_assoc] at this
    exact this
  rw [if_neg (by rw [hz]; omega), e3, if_neg (by split <;> omega), e4, shortR_sh _ _ (show c.val.size < 256 by omega)]
  simp only
  rw [e1, e2, numR_nb 8 _ hf.2]
  have e5 : decide ((if c.del then 1 else 0) = 1) = c.del := by cases c.del <;> rfl
  rw [e5]
  exact if_pos hm
theorem refCellP_fits {s r : ByteArray} {c : Cl} (h : refCellP s = some (c, r)) : fitsCl c ∧ r.size ≤ s.size := by
  unfold refCellP at h
  split at h
  · cases h
  · rename_i row s1 h1
    split at h
    · cases h
    · rename_i col s2 h2
      split at h
      · cases h
      · split at h
        · cases h
        · split at h
          · cases h
          · rename_i val s3 h3
            split at h
            · injection h with h
              injection h with h4 h5
              subst h4 h5
              have z1 := (shortR_size h1).1
              have z2 := (shortR_size h2).1
              have z3 := (shortR_size h3).1
              rw [ByteArray.size_extract] at z3
              exact ⟨⟨numR_lt _ _ _, numR_lt _ _ _⟩, by omega⟩
            · cases h
def cellsR : Nat → ByteArray → Option (List Cl × ByteArray)
  | 0, s => some ([], s)
  | k + 1, s => match cellsR k s with
    | none => none
    | some (L, r) => match refCellP r with
      | none => none
      | some (c, r') => some (L ++ [c], r')
theorem cellsR_next {k : Nat} {s r r' : ByteArray} {L : List Cl} {c : Cl} (h : cellsR k s = some (L, r)) (h2 : refCellP r = some (c, r')) : cellsR (k + 1) s = some (L ++ [c], r') := by
  rw [cellsR, h]
  simp only
  rw [h2]
theorem cellsR_stop {k : Nat} {s r : ByteArray} {L : List Cl} (h : cellsR k s = some (L, r)) (h2 : refCellP r = none) : ∀ n, cellsR (k + 1 + n) s = none
  | 0 => by
    rw [Nat.add_zero, cellsR, h]
    simp only
    rw [h2]
  | n + 1 => by
    rw [← Nat.add_assoc, cellsR, cellsR_stop h h2 n]
theorem cellsR_of (L : List Cl) (hm : ∀ c ∈ L, may c = true) (hf : ∀ c ∈ L, fitsCl c) (r : ByteArray) : ∀ k, k ≤ L.length → cellsR k (cat (L.map cellB) ++ r) = some (L.take k, cat ((L.drop k).map cellB) ++ r)
  | 0, _ => by simp [cellsR]
  | k + 1, h => by
    have h1 := cellsR_of L hm hf r k (by omega)
    have hk : k < L.length := by omega
    have h2 := refCellP_of (hm _ (List.getElem_mem hk)) (hf _ (List.getElem_mem hk)) (cat ((L.drop (k + 1)).map cellB) ++ r)
    rw [← cat_split cellB L k hk r] at h2
    rw [cellsR_next h1 h2, List.take_succ_eq_append_getElem hk]
theorem cellsR_fits : ∀ (k : Nat) (s : ByteArray) (L : List Cl) (r : ByteArray), cellsR k s = some (L, r) → (∀ c ∈ L, fitsCl c) ∧ L.length = k ∧ r.size ≤ s.size
  | 0, s, L, r, h => by
    rw [cellsR] at h
    injection h with h
    injection h with h1 h2
    subst h1 h2
    exact ⟨(fun c hc => by cases hc), rfl, Nat.le_refl _⟩
  | k + 1, s, L, r, h => by
    rw [cellsR] at h
    split at h
    · cases h
    · rename_i L0 r0 h0
      split at h
      · cases h
      · rename_i c r1 h1
        injection h with h
        injection h with h2 h3
        subst h2 h3
        obtain ⟨a1, a2, a3⟩ := cellsR_fits k s _ _ h0
        obtain ⟨b1, b2⟩ := refCellP_fits h1
        refine ⟨fun x hx => ?_, by rw [List.length_append, a2]; rfl, by omega⟩
        rcases List.mem_append.1 hx with hx | hx
        · exact a1 x hx
        · rw [List.mem_singleton.1 hx]; exact b1
/-- what the bytes tell, not yet held against them -/
def parseR (t : ByteArray) : Option Cmd :=
  if numR t 0 1 = 1 then match cellsR (numR t 17 1) (t.extract (min 18 t.size) t.size) with
    | none => none
    | some (L, _) => some ⟨1, numR t 1 8, numR t 9 8, L, ⟨#[]⟩, 0, 0, 0, []⟩
  else if numR t 0 1 = 2 then some ⟨2, 0, 0, [], t.extract (min 2 t.size) t.size, 0, 0, 0, []⟩
  else if numR t 0 1 = 3 then some ⟨3, 0, 0, [], ⟨#[]⟩, numR t 1 8, numR t 9 4, numR t 13 8, (List.range (numR t 21 1)).map fun i => numR t (22 + 4 * i) 4⟩
  else some ⟨(numR t 0 1 : Nat), 0, 0, [], ⟨#[]⟩, 0, 0, 0, []⟩
theorem parseR_fits {t : ByteArray} {c : Cmd} (h : parseR t = some c) : fitsC c := by
  unfold parseR at h
  have z : (0 : Nat) < 256 ^ 8 := by omega
  have z4 : (0 : Nat) < 256 ^ 4 := by omega
  split at h
  · split at h
    · cases h
    · rename_i L r hL
      injection h with h
      subst h
      exact ⟨numR_lt _ _ _, numR_lt _ _ _, (cellsR_fits _ _ _ _ hL).1, z, z4, z, fun x hx => by cases hx⟩
  · split at h
    · injection h with h
      subst h
      exact ⟨z, z, (fun x hx => by cases hx), z, z4, z, fun x hx => by cases hx⟩
    · split at h
      · injection h with h
        subst h
        refine ⟨z, z, (fun x hx => by cases hx), numR_lt _ _ _, numR_lt _ _ _, numR_lt _ _ _, fun x hx => ?_⟩
        obtain ⟨i, _, rfl⟩ := List.mem_map.1 hx
        exact numR_lt _ _ _
      · injection h with h
        subst h
        exact ⟨z, z, (fun x hx => by cases hx), z, z4, z, fun x hx => by cases hx⟩
theorem files_at : ∀ (F : List Nat) (i : Nat) (h : i < F.length), (∀ n ∈ F, n < 256 ^ 4) → ∀ r, numR (cat (F.map fun n => nb n 4) ++ r) (4 * i) 4 = F[i]
  | [], i, h, _, r => by simp at h
  | x :: F, 0, h, hf, r => by
    rw [List.map_cons, cat_cons, ByteArray.append_assoc]
    exact numR_nb 4 x (hf x (by simp)) _
  | x :: F, i + 1, h, hf, r => by
    rw [List.map_cons, cat_cons, ByteArray.append_assoc, show 4 * (i + 1) = 4 + 4 * i by omega, numR_skip]
    exact files_at F i (by simpa using h) (fun n hn => hf n (by simp [hn])) r
theorem parse_of {c : Cmd} {t : ByteArray} (hf : fitsC c) (h : encC c = (t, 0)) : parseR t = some c := by
  obtain ⟨h1, h2, h3, h4⟩ := encC_ok h
  simp only [wideC, Bool.or_eq_false_iff, decide_eq_false_iff_not, Nat.not_lt] at h2
  rcases plainC_cases h1 with ⟨hk, hc⟩ | ⟨hk, hc⟩ | ⟨hk, hc⟩
  · have ht : t = nb 1 1 ++ (nb c.client 8 ++ (nb c.num 8 ++ (nb c.cells.length 1 ++ (cat (c.cells.map cellB) ++ ⟨#[]⟩)))) := by
      rw [← h4]
      unfold encB partsC batchP
      rw [if_pos hk, cat_append, cat_cons, cat_cons, cat_cons, cat_cons, cat_nil, app_nil, app_nil]
      simp only [ByteArray.append_assoc]
    have e0 : numR t 0 1 = 1 := by rw [ht]; exact numR_nb 1 1 (by omega) _
    have e1 : numR t 1 8 = c.client := by rw [ht, show (1 : Nat) = 1 + 0 from rfl, numR_skip]; exact numR_nb 8 _ hf.client _
    have e2 : numR t 9 8 = c.num := by rw [ht, show (9 : Nat) = 1 + (8 + 0) from rfl, numR_skip, numR_skip]; exact numR_nb 8 _ hf.num _
    have e3 : numR t 17 1 = c.cells.length := by rw [ht, show (17 : Nat) = 1 + (8 + (8 + 0)) from rfl, numR_skip, numR_skip, numR_skip]; exact numR_nb 1 _ (by omega) _
    have e4 : t.extract (min 18 t.size) t.size = cat (c.cells.map cellB) ++ ⟨#[]⟩ := by
      have hh := extract_behind (nb 1 1 ++ (nb c.client 8 ++ (nb c.num 8 ++ nb c.cells.length 1))) (cat (c.cells.map cellB) ++ ⟨#[]⟩)
      have hz : (nb 1 1 ++ (nb c.client 8 ++ (nb c.num 8 ++ nb c.cells.length 1))).size = 18 := by simp only [ByteArray.size_append', nb_size]
      have hj : nb 1 1 ++ (nb c.client 8 ++ (nb c.num 8 ++ nb c.cells.length 1)) ++ (cat (c.cells.map cellB) ++ ⟨#[]⟩) = t := by rw [ht]; simp only [ByteArray.append_assoc]
      rw [hz, hj] at hh
      rw [show min 18 t.size = 18 from by
        have : t.size = 18 + (cat (c.cells.map cellB) ++ ⟨#[]⟩).size := by rw [← hj, ByteArray.size_append', hz]
        omega]
      exact hh
    unfold parseR
    rw [if_pos e0, e1, e2, e3, e4, cellsR_of c.cells (by simpa [mayC] using h3) hf.cells ⟨#[]⟩ c.cells.length (Nat.le_refl _), List.take_length]
    simp only
    rw [← hc]
  · have ht : t = nb 2 1 ++ (nb c.row.size 1 ++ (c.row ++ ⟨#[]⟩)) := by
      rw [← h4]
      unfold encB partsC splitP
      rw [if_neg (by omega), if_pos hk, cat_cons, cat_cons, cat_cons, cat_nil]
    have e0 : numR t 0 1 = 2 := by rw [ht]; exact numR_nb 1 2 (by omega) _
    have e4 : t.extract (min 2 t.size) t.size = c.row := by
      have hh := extract_behind (nb 2 1 ++ nb c.row.size 1) (c.row ++ ⟨#[]⟩)
      have hz : (nb 2 1 ++ nb c.row.size 1).size = 2 := by simp only [ByteArray.size_append', nb_size]
      have hj : nb 2 1 ++ nb c.row.size 1 ++ (c.row ++ ⟨#[]⟩) = t := by rw [ht]; simp only [ByteArray.append_assoc]
      rw [hz, hj, app_nil] at hh
      rw [show min 2 t.size = 2 from by
        have : t.size = 2 + (c.row ++ ⟨#[]⟩).size := by rw [← hj, ByteArray.size_append', hz]
        omega]
      exact hh
    unfold parseR
    rw [if_neg (by omega), if_pos e0, e4, ← hc]
  · have ht : t = nb 3 1 ++ (nb c.job 8 ++ (nb c.sum 4 ++ (nb c.epoch 8 ++ (nb c.files.length 1 ++ (cat (c.files.map fun n => nb n 4) ++ ⟨#[]⟩))))) := by
      rw [← h4]
      unfold encB partsC ingestP
      rw [if_neg (by omega), if_neg (by omega), cat_append, cat_cons, cat_cons, cat_cons, cat_cons, cat_cons, cat_nil, app_nil, app_nil]
      simp only [ByteArray.append_assoc]
    have e0 : numR t 0 1 = 3 := by rw [ht]; exact numR_nb 1 3 (by omega) _
    have e1 : numR t 1 8 = c.job := by rw [ht, show (1 : Nat) = 1 + 0 from rfl, numR_skip]; exact numR_nb 8 _ hf.job _
    have e2 : numR t 9 4 = c.sum := by rw [ht, show (9 : Nat) = 1 + (8 + 0) from rfl, numR_skip, numR_skip]; exact numR_nb 4 _ hf.sum _
    have e3 : numR t 13 8 = c.epoch := by rw [ht, show (13 : Nat) = 1 + (8 + (4 + 0)) from rfl, numR_skip, numR_skip, numR_skip]; exact numR_nb 8 _ hf.epoch _
    have e4 : numR t 21 1 = c.files.length := by rw [ht, show (21 : Nat) = 1 + (8 + (4 + (8 + 0))) from rfl, numR_skip, numR_skip, numR_skip, numR_skip]; exact numR_nb 1 _ (by omega) _
    have e5 : ((List.range c.files.length).map fun i => numR t (22 + 4 * i) 4) = c.files := by
      apply List.ext_getElem
      · simp
      · intro i hi hi'
        rw [List.getElem_map, List.getElem_range, ht, show 22 + 4 * i = 1 + (8 + (4 + (8 + (1 + 4 * i)))) by omega, numR_skip, numR_skip, numR_skip, numR_skip, numR_skip]
        exact files_at c.files i hi' hf.files _
    unfold parseR
    rw [if_neg (by omega), if_neg (by omega), if_pos e0, e1, e2, e3, e4, e5, ← hc]
/-- the reference's Decode -/
def decR (t : ByteArray) : Cmd × Int := match parseR t with
  | none => (zeroC, 50)
  | some c => if encC c = (t, 0) then (c, 0) else (zeroC, 50)
theorem decR_of {c : Cmd} {t : ByteArray} (hf : fitsC c) (h : encC c = (t, 0)) : decR t = (c, 0) := by
  unfold decR
  rw [parse_of hf h]
  exact if_pos h
theorem decR_spec (t : ByteArray) : (∃ c, fitsC c ∧ encC c = (t, 0) ∧ decR t = (c, 0)) ∨ decR t = (zeroC, 50) := by
  unfold decR
  split
  · exact .inr rfl
  · rename_i c hc
    split
    · rename_i he
      exact .inl ⟨c, parseR_fits hc, he, rfl⟩
    · exact .inr rfl
theorem ctakeP_le (n : Nat) (st : CS) : (ctakeP n st).1.size ≤ n := by
  unfold ctakeP
  have hz : (zB n).size = n := by unfold zB; rw [strOf_size]; simp
  split
  · split
    · simp only; omega
    · simp only [ByteArray.size_extract]; omega
  · simp only; omega
theorem cnumP_fit (st : CS) : (cnumP st).1 < 256 ^ 8 := by
  unfold cnumP
  refine Nat.lt_of_lt_of_le (numL_lt _) (Nat.pow_le_pow_right (by omega) ?_)
  rw [data_len]
  exact ctakeP_le 8 st
theorem cellDecP_fits {s r : ByteArray} {c : Cl} (h : cellDecP s = some (c, r)) : fitsCl c := by
  unfold cellDecP at h
  split at h
  · injection h with h
    injection h with h _
    subst h
    exact ⟨cnumP_fit _, cnumP_fit _⟩
  · cases h
theorem cellsTo_fits : ∀ (k : Nat) (s : ByteArray) (L : List Cl) (r : ByteArray), cellsTo k s = some (L, r) → ∀ c ∈ L, fitsCl c
  | 0, s, L, r, h => by
    rw [cellsTo] at h
    injection h with h
    injection h with h1 h2
    subst h1 h2
    exact fun c hc => by cases hc
  | k + 1, s, L, r, h => by
    rw [cellsTo] at h
    split at h
    · cases h
    · rename_i L0 r0 h0
      split at h
      · cases h
      · rename_i c r1 h1
        injection h with h
        injection h with h2 h3
        subst h2 h3
        intro x hx
        rcases List.mem_append.1 hx with hx | hx
        · exact cellsTo_fits k s _ _ h0 x hx
        · rw [List.mem_singleton.1 hx]; exact cellDecP_fits h1
theorem numsTo_fits (st : St) : ∀ k, ∀ x ∈ (numsTo k st).1, x < 256 ^ 4
  | 0 => fun x hx => by cases hx
  | k + 1 => fun x hx => by
    rw [numsTo] at hx
    rcases List.mem_append.1 hx with hx | hx
    · exact numsTo_fits st k x hx
    · rw [List.mem_singleton.1 hx]; exact numP_lt 4 _
theorem zero_fits : fitsC zeroC := ⟨by show 0 < _; omega, by show 0 < _; omega, (fun x hx => by cases hx), by show 0 < _; omega, by show 0 < _; omega, by show 0 < _; omega, fun x hx => by cases hx⟩
theorem finC_fits {t : ByteArray} {b : Bool} {c : Cmd} (h : fitsC c) : fitsC (finC t b c).1 := by
  unfold finC
  split
  · exact h
  · exact zero_fits
theorem decC_fits (t : ByteArray) : fitsC (decC t).1 := by
  have z : (0 : Nat) < 256 ^ 8 := by omega
  have z4 : (0 : Nat) < 256 ^ 4 := by omega
  unfold decC
  split
  · simp only
    split
    · exact zero_fits
    · rename_i L r hL
      exact finC_fits ⟨numP_lt 8 _, numP_lt 8 _, cellsTo_fits _ _ _ _ hL, z, z4, z, fun x hx => by cases hx⟩
  · split
    · dsimp only
      exact finC_fits ⟨z, z, (fun x hx => by cases hx), z, z4, z, fun x hx => by cases hx⟩
    · split
      · dsimp only
        refine finC_fits ?_
        obtain ⟨j, hj⟩ : ∃ j, numP 8 (numP 1 (t, false)).2 = j := ⟨_, rfl⟩
        have h1 : j.1 < 256 ^ 8 := by rw [← hj]; exact numP_lt 8 _
        rw [hj]
        obtain ⟨q, hq⟩ : ∃ q, numP 4 j.2 = q := ⟨_, rfl⟩
        have h2 : q.1 < 256 ^ 4 := by rw [← hq]; exact numP_lt 4 _
        rw [hq]
        obtain ⟨e, he⟩ : ∃ e, numP 8 q.2 = e := ⟨_, rfl⟩
        have h3 : e.1 < 256 ^ 8 := by rw [← he]; exact numP_lt 8 _
        rw [he]
        obtain ⟨n, hn⟩ : ∃ n, numP 1 e.2 = n := ⟨_, rfl⟩
        rw [hn]
        have h4 := numsTo_fits n.2 n.1
        exact ⟨z, z, (fun x hx => by cases hx), h1, h2, h3, h4⟩
      · exact finC_fits ⟨z, z, (fun x hx => by cases hx), z, z4, z, fun x hx => by cases hx⟩
theorem decR_eq (t : ByteArray) : decR t = decC t := by
  rcases decC_spec t with ⟨h1, h2⟩ | h
  · rw [decR_of (decC_fits t) h2]
    rw [← h1]
  · rcases decR_spec t with ⟨c, hf, he, hd⟩ | h'
    · rw [decC_of hf he] at h
      injection h with _ h
      cases h
    · rw [h', h]
end Go.Proofs.Ytiiogdgnccgehaa
