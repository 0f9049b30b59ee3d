/-
  What tablet.Decode reads, plain: it comes back. No conditions.
-/
import Derived.Test.YtiiogdgnccgehaaLists19
import Derived.Test.YtiiogdgnccgehaaEncodeC19
namespace Go.Proofs.Ytiiogdgnccgehaa
open Go.RowKit

abbrev St := ByteArray × Bool
def cellsTo : Nat → ByteArray → Option (List Cl × ByteArray)
  | 0, s => some ([], s)
  | k + 1, s => match cellsTo k s with
    | none => none
    | some (L, r) => match cellDecP r with
      | none => none
      | some (c, r') => some (L ++ [c], r')
def numsTo : Nat → St → List Nat × St
  | 0, st => ([], st)
  | k + 1, st => ((numsTo k st).1 ++ [(numP 4 (numsTo k st).2).1], (numP 4 (numsTo k st).2).2)
def zeroC : Cmd := ⟨0, 0, 0, [], ⟨#[]⟩, 0, 0, 0, []⟩
/-- it has to be told just so -/
def finC (t : ByteArray) (bad : Bool) (c : Cmd) : Cmd × Int := if bad = false ∧ encC c = (t, 0) then (c, 0) else (zeroC, 50)
def decC (t : ByteArray) : Cmd × Int :=
  if (numP 1 (t, false)).1 = 1 then
    let b := numP 8 (numP 1 (t, false)).2
    let d := numP 8 b.2
    let n := numP 1 d.2
    match cellsTo n.1 n.2.1 with
    | none => (zeroC, 50)
    | some (L, _) => finC t n.2.2 ⟨1, b.1, d.1, L, ⟨#[]⟩, 0, 0, 0, []⟩
  else if (numP 1 (t, false)).1 = 2 then
    let n := numP 1 (numP 1 (t, false)).2
    let r := takeP n.1 n.2
    finC t r.2.2 ⟨2, 0, 0, [], r.1, 0, 0, 0, []⟩
  else if (numP 1 (t, false)).1 = 3 then
    let j := numP 8 (numP 1 (t, false)).2
    let s := numP 4 j.2
    let e := numP 8 s.2
    let n := numP 1 e.2
    let f := numsTo n.1 n.2
    finC t f.2.2 ⟨3, 0, 0, [], ⟨#[]⟩, j.1, s.1, e.1, f.1⟩
  else finC t (numP 1 (t, false)).2.2 ⟨((numP 1 (t, false)).1 : Nat), 0, 0, [], ⟨#[]⟩, 0, 0, 0, []⟩

theorem numP_lt (k : Nat) (st : St) : (numP k st).1 < 256 ^ k := by
  have h1 := numL_lt (takeP k st).1.data.toList
  have h2 : (takeP k st).1.data.toList.length ≤ k := (takeP_size k st.1 st.2).1
  exact Nat.lt_of_lt_of_le h1 (Nat.pow_le_pow_right (by omega) h2)
theorem takeP_rest (k : Nat) (st : St) : (takeP k st).2.1.size ≤ st.1.size := (takeP_size k st.1 st.2).2
theorem numP_rest (k : Nat) (st : St) : (numP k st).2.1.size ≤ st.1.size := takeP_rest k st
theorem cdP_size (s : ByteArray) : (cdP s).2.1.size ≤ s.size := by
  unfold cdP
  simp only
  exact Nat.le_trans (ctextP_size _) (Nat.le_trans (cflagP_size _) (Nat.le_trans (cnumP_size _) (Nat.le_trans (cnumP_size _) (Nat.le_trans (ctextP_size _) (ctextP_size _)))))
theorem cellDecP_size {s r : ByteArray} {c : Cl} (h : cellDecP s = some (c, r)) : r.size ≤ s.size := by
  unfold cellDecP at h
  split at h
  · injection h with h
    injection h with _ h
    rw [← h]
    exact cdP_size s
  · cases h
theorem cellsTo_size : ∀ (k : Nat) (s : ByteArray) (L : List Cl) (r : ByteArray), cellsTo k s = some (L, r) → r.size ≤ s.size ∧ L.length = k
  | 0, s, L, r, h => by
    rw [cellsTo] at h
    injection h with h
    injection h with h1 h2
    subst h1 h2
    exact ⟨Nat.le_refl _, rfl⟩
  | k + 1, s, L, r, h => by
    rw [cellsTo] at h
    split at h
    · cases h
    · rename_i L0 r0 h0
      split at h
      · cases h
      · rename_i c r1 h1
        injection h with h
        injection h with h2 h3
        subst h2 h3
        have h4 := cellsTo_size k s _ _ h0
        exact ⟨Nat.le_trans (cellDecP_size h1) h4.1, by rw [List.length_append, h4.2]; rfl⟩
theorem cellsTo_next {k : Nat} {s r r' : ByteArray} {L : List Cl} {c : Cl} (h : cellsTo k s = some (L, r)) (h2 : cellDecP r = some (c, r')) : cellsTo (k + 1) s = some (L ++ [c], r') := by
  rw [cellsTo, h]
  simp only
  rw [h2]
theorem cellsTo_stop {k : Nat} {s r : ByteArray} {L : List Cl} (h : cellsTo k s = some (L, r)) (h2 : cellDecP r = none) : ∀ n, cellsTo (k + 1 + n) s = none
  | 0 => by
    rw [Nat.add_zero, cellsTo, h]
    simp only
    rw [h2]
  | n + 1 => by
    rw [← Nat.add_assoc, cellsTo, cellsTo_stop h h2 n]
theorem numsTo_next (st : St) (k : Nat) {x : Nat} {s : St} (h : numP 4 (numsTo k st).2 = (x, s)) : numsTo (k + 1) st = ((numsTo k st).1 ++ [x], s) := by
  rw [numsTo, h]
theorem numsTo_rest (st : St) : ∀ k, (numsTo k st).2.1.size ≤ st.1.size
  | 0 => Nat.le_refl _
  | k + 1 => by
    rw [numsTo]
    exact Nat.le_trans (numP_rest 4 _) (numsTo_rest st k)
theorem numsTo_len (st : St) : ∀ k, (numsTo k st).1.length = k
  | 0 => rfl
  | k + 1 => by
    rw [numsTo, List.length_append, numsTo_len st k]
    rfl

/-- what stands ahead is taken -/
theorem extract_ahead (s r : ByteArray) : (s ++ r).extract 0 s.size = s := by
  rw [ByteArray.extract_append]
  simp
theorem extract_behind (s r : ByteArray) : (s ++ r).extract s.size (s ++ r).size = r := by
  rw [ByteArray.extract_append, ByteArray.size_append, Nat.sub_self, show s.size + r.size - s.size = r.size by omega, ByteArray.extract_zero_size]
  have h : s.extract s.size (s.size + r.size) = ⟨#[]⟩ := by
    apply ByteArray.ext
    apply Array.ext'
    simp [ByteArray.data_extract]
  rw [h]
  exact nil_app r
theorem takeP_app (s r : ByteArray) (b : Bool) : takeP s.size (s ++ r, b) = (s, r, b) := by
  unfold takeP
  simp only
  rw [if_neg (by rw [ByteArray.size_append]; omega), extract_ahead, extract_behind]
theorem ctakeP_app (s r : ByteArray) : ctakeP s.size (s ++ r, 0) = (s, (r, 0)) := by
  unfold ctakeP
  simp only [if_true]
  rw [if_neg (by rw [ByteArray.size_append]; omega), extract_ahead, extract_behind]
theorem numL_nbI : ∀ (k N : Nat), numL ((nbI N k).map byteI) = N % 256 ^ k := by
  intro k
  induction k with
  | zero => intro N; simp [nbI, numL, Nat.mod_one]
  | succ k ih =>
    intro N
    have h1 : (nbI N (k + 1)).map byteI = byteI ((N : Int) % 256) :: (nbI (N / 256) k).map byteI := by
      unfold nbI
      rw [List.range_succ_eq_map, List.map_cons, List.map_cons, List.map_map, List.map_map]
      congr 1
      · simp
      · rw [List.map_map]
        apply List.map_congr_left
        intro i _
        simp only [Function.comp]
        congr 2
        rw [show 8 * (i + 1) = 8 + 8 * i by omega, Int.pow_add, Int.natCast_ediv, Int.ediv_ediv_of_nonneg (by omega)]
        rfl
    rw [h1, numL, ih]
    have h2 : (byteI ((N : Int) % 256)).toNat = N % 256 := by
      unfold byteI
      have : ((N : Int) % 256).toNat = N % 256 := by omega
      rw [this, UInt8.toNat_ofNat']
      omega
    rw [h2, Nat.pow_succ, Nat.mul_comm (256 ^ k) 256, Nat.mod_mul]
theorem numP_nb (k N : Nat) (h : N < 256 ^ k) (r : ByteArray) (b : Bool) : numP k (nb N k ++ r, b) = (N, r, b) := by
  have h1 := takeP_app (nb N k) r b
  rw [nb_size] at h1
  unfold numP
  rw [h1]
  simp only [Prod.mk.injEq, and_true]
  rw [show (nb N k).data.toList = (nbI N k).map byteI from by unfold nb ofL; simp, numL_nbI, Nat.mod_eq_of_lt h]
theorem byte0_nb (N : Nat) (h : N < 256) : byte0 (nb N 1) = N := by
  unfold byte0 nb nbI ofL
  simp [byteI]
  omega
theorem ctextP_sh (s r : ByteArray) (h : s.size < 256) : ctextP (sh s ++ r, 0) = (s, (r, 0)) := by
  unfold ctextP
  have h1 := ctakeP_app (nb s.size 1) (s ++ r)
  rw [nb_size, ← ByteArray.append_assoc] at h1
  unfold sh
  rw [h1]
  simp only
  rw [byte0_nb _ h]
  exact ctakeP_app s r
theorem cnumP_nb (N : Nat) (r : ByteArray) (h : N < 256 ^ 8) : cnumP (nb N 8 ++ r, 0) = (N, (r, 0)) := by
  have h1 := ctakeP_app (nb N 8) r
  rw [nb_size] at h1
  unfold cnumP
  rw [h1]
  simp only [Prod.mk.injEq, and_true]
  rw [show (nb N 8).data.toList = (nbI N 8).map byteI from by unfold nb ofL; simp, numL_nbI, Nat.mod_eq_of_lt h]
theorem cflagP_flag (d : Bool) (r : ByteArray) : cflagP (flagB d ++ r, 0) = (d, (r, 0)) := by
  have h1 := ctakeP_app (flagB d) r
  rw [show (flagB d).size = 1 from nb_size _ _] at h1
  unfold cflagP
  rw [h1]
  simp only
  unfold flagB
  rw [byte0_nb _ (by split <;> omega)]
  cases d <;> simp
def fitsCl (c : Cl) : Prop := c.ts < 256 ^ 8 ∧ c.seq < 256 ^ 8
theorem may_sizes {c : Cl} (hm : may c = true) : c.row.size ≤ 40 ∧ c.col.size ≤ 40 ∧ c.val.size ≤ 100 := by
  simp only [may, Bool.and_eq_true, decide_eq_true_eq] at hm
  omega
/-- a cell's bytes are read as that cell -/
theorem cellDecP_of {c : Cl} (hm : may c = true) (hf : fitsCl c) (r : ByteArray) : cellDecP (cellB c ++ r) = some (c, r) := by
  have hs := may_sizes hm
  have h : cdP (cellB c ++ r) = (c, (r, 0)) := by
    unfold cdP cellB
    simp only [ByteArray.append_assoc]
    simp only [ctextP_sh _ _ (show c.row.size < 256 by omega), ctextP_sh _ _ (show c.col.size < 256 by omega), ctextP_sh _ _ (show c.val.size < 256 by omega), cnumP_nb _ _ hf.1, cnumP_nb _ _ hf.2, cflagP_flag]
  unfold cellDecP
  rw [h]
  exact if_pos ⟨rfl, hm⟩
theorem cat_split {α : Type} (f : α → ByteArray) (L : List α) (k : Nat) (hk : k < L.length) (r : ByteArray) : cat ((L.drop k).map f) ++ r = f L[k] ++ (cat ((L.drop (k + 1)).map f) ++ r) := by
  rw [List.drop_eq_getElem_cons hk, List.map_cons, cat_cons, ByteArray.append_assoc]
theorem cellsTo_of (L : List Cl) (hm : ∀ c ∈ L, may c = true) (hf : ∀ c ∈ L, fitsCl c) (r : ByteArray) : ∀ k, k ≤ L.length → cellsTo k (cat (L.map cellB) ++ r) = some (L.take k, cat ((L.drop k).map cellB) ++ r)
  | 0, _ => by simp [cellsTo]
  | k + 1, h => by
    have h1 := cellsTo_of L hm hf r k (by omega)
    have hk : k < L.length := by omega
    have h2 := cellDecP_of (hm _ (List.getElem_mem hk)) (hf _ (List.getElem_mem hk)) (cat ((L.drop (k + 1)).map cellB) ++ r)
    rw [← cat_split cellB L k hk r] at h2
    rw [cellsTo_next h1 h2, List.take_succ_eq_append_getElem hk]
theorem numsTo_of (F : List Nat) (hf : ∀ n ∈ F, n < 256 ^ 4) (r : ByteArray) (b : Bool) : ∀ k, k ≤ F.length → numsTo k (cat (F.map fun n => nb n 4) ++ r, b) = (F.take k, (cat ((F.drop k).map fun n => nb n 4) ++ r, b))
  | 0, _ => by simp [numsTo]
  | k + 1, h => by
    have h1 := numsTo_of F hf r b k (by omega)
    have hk : k < F.length := by omega
    have h2 := numP_nb 4 F[k] (hf _ (List.getElem_mem hk)) (cat ((F.drop (k + 1)).map fun n => nb n 4) ++ r) b
    rw [← cat_split (fun n => nb n 4) F k hk r] at h2
    have h3 := numsTo_next (cat (F.map fun n => nb n 4) ++ r, b) k (x := F[k]) (s := (cat ((F.drop (k + 1)).map fun n => nb n 4) ++ r, b)) (by rw [h1]; exact h2)
    rw [h3, h1, List.take_succ_eq_append_getElem hk]
/-- all its numbers go into their words -/
structure fitsC (c : Cmd) : Prop where
  client : c.client < 256 ^ 8
  num : c.num < 256 ^ 8
  cells : ∀ x ∈ c.cells, fitsCl x
  job : c.job < 256 ^ 8
  sum : c.sum < 256 ^ 4
  epoch : c.epoch < 256 ^ 8
  files : ∀ x ∈ c.files, x < 256 ^ 4
theorem encC_ok {c : Cmd} {t : ByteArray} (h : encC c = (t, 0)) : plainC c = true ∧ wideC c = false ∧ mayC c = true ∧ encB c = t := by
  unfold encC at h
  split at h
  · rename_i h1
    split at h
    · injection h with _ h; cases h
    · rename_i h2
      split at h
      · rename_i h3
        injection h with h _
        exact ⟨h1, by simpa using h2, h3, h⟩
      · injection h with _ h; cases h
  · injection h with _ h; cases h
theorem plainC_cases {c : Cmd} (h : plainC c = true) : (c.kind = 1 ∧ c = ⟨1, c.client, c.num, c.cells, ⟨#[]⟩, 0, 0, 0, []⟩) ∨ (c.kind = 2 ∧ c = ⟨2, 0, 0, [], c.row, 0, 0, 0, []⟩) ∨ (c.kind = 3 ∧ c = ⟨3, 0, 0, [], ⟨#[]⟩, c.job, c.sum, c.epoch, c.files⟩) := by
  obtain ⟨kind, client, num, cells, row, job, sum, epoch, files⟩ := c
  have he : ∀ r : ByteArray, r.size = 0 → r = ⟨#[]⟩ := fun r hr => by
    apply ByteArray.ext
    exact Array.eq_empty_of_size_eq_zero hr
  simp only [plainC, noBatch, noSplit, noIngest, Bool.or_eq_true, Bool.and_eq_true, decide_eq_true_eq] at h
  rcases h with (⟨⟨h1, h2⟩, h3⟩ | ⟨⟨h1, h2⟩, h3⟩) | ⟨⟨h1, h2⟩, h3⟩
  · obtain ⟨rfl, rfl, rfl, rfl⟩ := h3
    rw [he _ h2]
    subst h1
    exact .inl ⟨rfl, rfl⟩
  · obtain ⟨rfl, rfl, rfl, rfl⟩ := h3
    obtain ⟨rfl, rfl, rfl⟩ := h2
    subst h1
    exact .inr (.inl ⟨rfl, rfl⟩)
  · obtain ⟨rfl, rfl, rfl⟩ := h2
    rw [he _ h3]
    subst h1
    exact .inr (.inr ⟨rfl, rfl⟩)
theorem finC_ok {t : ByteArray} {c : Cmd} (h : encC c = (t, 0)) : finC t false c = (c, 0) := if_pos ⟨rfl, h⟩
/-- what was encoded is decoded -/
theorem decC_of {c : Cmd} {t : ByteArray} (hf : fitsC c) (h : encC c = (t, 0)) : decC t = (c, 0) := by
  obtain ⟨h1, h2, h3, h4⟩ := encC_ok h
  simp only [wideC, Bool.or_eq_false_iff, decide_eq_false_iff_not, Nat.not_lt] at h2
  rcases plainC_cases h1 with ⟨hk, hc⟩ | ⟨hk, hc⟩ | ⟨hk, hc⟩
  · have ht : t = nb 1 1 ++ (nb c.client 8 ++ (nb c.num 8 ++ (nb c.cells.length 1 ++ (cat (c.cells.map cellB) ++ ⟨#[]⟩)))) := by
      rw [← h4]
      unfold encB partsC batchP
      rw [if_pos hk, cat_append, cat_cons, cat_cons, cat_cons, cat_cons, cat_nil, app_nil, app_nil]
      simp only [ByteArray.append_assoc]
    have e1 := numP_nb 1 1 (by omega) (nb c.client 8 ++ (nb c.num 8 ++ (nb c.cells.length 1 ++ (cat (c.cells.map cellB) ++ ⟨#[]⟩)))) false
    rw [← ht] at e1
    unfold decC
    rw [e1]
    simp only [if_true]
    rw [numP_nb 8 _ hf.client, numP_nb 8 _ hf.num, numP_nb 1 _ (by omega)]
    have e2 := cellsTo_of c.cells (by simpa [mayC] using h3) hf.cells ⟨#[]⟩ c.cells.length (Nat.le_refl _)
    rw [List.take_length] at e2
    rw [e2]
    simp only
    rw [← hc]
    exact finC_ok h
  · have ht : t = nb 2 1 ++ (nb c.row.size 1 ++ (c.row ++ ⟨#[]⟩)) := by
      rw [← h4]
      unfold encB partsC splitP
      rw [if_neg (by omega), if_pos hk, cat_cons, cat_cons, cat_cons, cat_nil]
    have e1 := numP_nb 1 2 (by omega) (nb c.row.size 1 ++ (c.row ++ ⟨#[]⟩)) false
    rw [← ht] at e1
    unfold decC
    rw [e1]
    simp only [if_true]
    rw [if_neg (by omega), numP_nb 1 _ (by omega), takeP_app]
    simp only
    rw [← hc]
    exact finC_ok h
  · have ht : t = nb 3 1 ++ (nb c.job 8 ++ (nb c.sum 4 ++ (nb c.epoch 8 ++ (nb c.files.length 1 ++ (cat (c.files.map fun n => nb n 4) ++ ⟨#[]⟩))))) := by
      rw [← h4]
      unfold encB partsC ingestP
      rw [if_neg (by omega), if_neg (by omega), cat_append, cat_cons, cat_cons, cat_cons, cat_cons, cat_cons, cat_nil, app_nil, app_nil]
      simp only [ByteArray.append_assoc]
    have e1 := numP_nb 1 3 (by omega) (nb c.job 8 ++ (nb c.sum 4 ++ (nb c.epoch 8 ++ (nb c.files.length 1 ++ (cat (c.files.map fun n => nb n 4) ++ ⟨#[]⟩))))) false
    rw [← ht] at e1
    unfold decC
    rw [e1]
    simp only [if_true]
    rw [if_neg (by omega), if_neg (by omega), numP_nb 8 _ hf.job, numP_nb 4 _ hf.sum, numP_nb 8 _ hf.epoch, numP_nb 1 _ (by omega)]
    have e2 := numsTo_of c.files hf.files ⟨#[]⟩ false c.files.length (Nat.le_refl _)
    rw [List.take_length] at e2
    rw [e2]
    simp only
    rw [← hc]
    exact finC_ok h
theorem finC_spec (t : ByteArray) (b : Bool) (c : Cmd) : ((finC t b c).2 = 0 ∧ encC (finC t b c).1 = (t, 0)) ∨ finC t b c = (zeroC, 50) := by
  unfold finC
  split
  · rename_i h
    exact .inl ⟨rfl, h.2⟩
  · exact .inr rfl
/-- what is decoded was encoded -/
theorem decC_spec (t : ByteArray) : ((decC t).2 = 0 ∧ encC (decC t).1 = (t, 0)) ∨ decC t = (zeroC, 50) := by
  unfold decC
  split
  · simp only
    split
    · exact .inr rfl
    · exact finC_spec _ _ _
  · split
    · exact finC_spec _ _ _
    · split
      · exact finC_spec _ _ _
      · exact finC_spec _ _ _
end Go.Proofs.Ytiiogdgnccgehaa
