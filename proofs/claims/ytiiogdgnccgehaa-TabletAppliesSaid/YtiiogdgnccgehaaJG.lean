/-
  slices.BinarySearch and slices.Insert at texts: what they give. slices.BinarySearch at rising texts; a text put into rising ones. What the methods of a state give, plain; words for their walks. No conditions.
-/
import Derived.Test.YtiiogdgnccgehaaSlLay19
import Derived.Test.YtiiogdgnccgehaaJF
namespace Go.Proofs.Ytiiogdgnccgehaa
open Go.RowKit

theorem setCells_mid (T : TypeId) (g : Nat) : ∀ (vs pre old post : List Value) (w : World), Blk T w g (pre ++ (old ++ post)) → vs.length = old.length → Blk T (w.setCells g pre.length vs) g (pre ++ (vs ++ post))
  | [], pre, old, post, w, h, hl => by
    have : old = [] := List.length_eq_zero_iff.1 hl.symm
    subst this
    exact h
  | v :: vs, pre, [], post, w, h, hl => by simp at hl
  | v :: vs, pre, o :: old, post, w, h, hl => by
    have h1 := h.set pre.length v
    rw [List.set_append_right _ _ (Nat.le_refl _), Nat.sub_self, List.cons_append, List.set_cons_zero] at h1
    have h2 := setCells_mid T g vs (pre ++ [v]) old post (w.setCell ⟨g, pre.length, none⟩ v) (by simpa using h1) (by simpa using hl)
    rw [List.length_append, List.length_cons, List.length_nil, List.append_assoc] at h2
    exact h2
theorem setCells_mid' {T : TypeId} {g o : Nat} {vs cs : List Value} {w : World} (pre old post : List Value) (h : Blk T w g cs) (hc : cs = pre ++ (old ++ post)) (hl : vs.length = old.length) (ho : pre.length = o) : Blk T (w.setCells g o vs) g (pre ++ (vs ++ post)) := by
  subst hc ho
  exact setCells_mid T g vs pre old post w h hl
/-- an own row of texts, as a block -/
theorem OwnS.blk {w : World} {B n c : Nat} {A : Option Addr} {l : List ByteArray} (h : OwnS w B A n c l) (hc : 0 < c) : ∃ (g : Nat) (post : List Value), A = some ⟨g, 0, none⟩ ∧ B ≤ g ∧ Blk 9 w g (txs l ++ post) ∧ post.length = c - n ∧ n ≤ c ∧ c ≤ maxLen := by
  rcases h.2 with ⟨hv, _⟩ | ⟨g, cap, cur, hv, hb, hg, h3, h4, h5, h6⟩
  · injection hv with _ _ h0
    omega
  · injection hv with hA _ h0
    subst hA h0
    refine ⟨g, cur.toList.drop n, rfl, hb, ?_, by rw [List.length_drop, Array.length_toList, h5]; omega, h3, h4⟩
    unfold Blk
    rw [hg]
    congr 2
    apply Array.ext'
    rw [List.toList_toArray]
    rw [Nat.mul_one] at h6
    unfold txs
    rw [← h6, List.take_append_drop]
theorem Blk.drew {T : TypeId} {w : World} {g : Nat} {cs : List Value} (h : Blk T w g cs) : Blk T w.drew g cs := h
theorem OwnS.of {w : World} {B g c n : Nat} {l : List ByteArray} {post : List Value} (hn : l.length = n) (h : Blk 9 w g (txs l ++ post)) (hb : B ≤ g) (hc : n + post.length = c) (hm : c ≤ maxLen) : OwnS w B (some ⟨g, 0, none⟩) n c l := by
  subst hn
  refine ⟨by simp, .inr ⟨g, c, _, rfl, hb, h, by omega, hm, by simp [txs]; omega, ?_⟩⟩
  rw [Nat.mul_one, List.toList_toArray, List.take_append_of_le_length (by simp [txs]), List.take_of_length_le (by simp [txs])]
  rfl
theorem Blk.shape {T : TypeId} {w : World} {g : Nat} {cs : List Value} (h : Blk T w g cs) : w.shape? g = some (T, cs.length) := by
  unfold Blk at h
  simp [World.shape?, h]
theorem txs_app (a b : List ByteArray) : txs (a ++ b) = txs a ++ txs b := by simp [txs]
/-- the text x at place i -/
def putAt (l : List ByteArray) (i : Nat) (x : ByteArray) : List ByteArray := l.take i ++ [x] ++ l.drop i
theorem putAt_len {l : List ByteArray} {i : Nat} (h : i ≤ l.length) (x : ByteArray) : (putAt l i x).length = l.length + 1 := by
  simp [putAt]
  omega
theorem putAt_txs (l : List ByteArray) (i : Nat) (x : ByteArray) : txs (putAt l i x) = (txs l).take i ++ ([.string x] ++ (txs l).drop i) := by
  simp [putAt, txs]
theorem cell_txs {w : World} {g : Nat} {l : List ByteArray} {post : List Value} (h : Blk 9 w g (txs l ++ post)) (j : Nat) (v : Value) (hv : (txs l)[j]? = some v) : w.cell? ⟨g, 0 + j, none⟩ = some v := by
  rw [Nat.zero_add]
  refine h.cell ?_
  rw [List.getElem?_append_left (List.getElem?_eq_some_iff.1 hv).1]
  exact hv
theorem grownBy_new {w w' : World} {W : World} (h : Below w.heap.size w w') (hw : w = W) (row : Option Nat) : W.grownBy w' row := by
  subst hw
  exact grownBy_below h row
theorem insert_any (l : List ByteArray) (i c B g2 : Nat) (A : Option Addr) (x : ByteArray) (w : World) (ho : OwnS w B A l.length c l) (hi : i ≤ l.length) (hl : l.length ≤ 1000) (hx : Blk 9 w g2 [.string x]) (hne : blk A ≠ some g2) (hB : B ≤ w.heap.size) :
    Calls Try.prog 73 #[.slice A l.length c, .int .i64 i, .slice (some ⟨g2, 0, none⟩) 1 1] w fun e w' => ∃ (A' : Option Addr) (c' : Nat), e = .returned (.slice A' (l.length + 1) c') ∧ OwnS w' B A' (l.length + 1) c' (putAt l i x) ∧ w.grownBy w' (blk A) := by
  have hvs : ∀ j v, ([Value.string x] : List Value)[j]? = some v → w.cell? ⟨g2, 0 + j, none⟩ = some v := fun j v hv => by rw [Nat.zero_add]; exact hx.cell hv
  have h1v : ∀ v ∈ ([Value.string x] : List Value), v.oneCell' = true := by simp [Value.oneCell']
  have htl : (txs l).length = l.length := by simp [txs]
  have hle := putAt_len hi x
  have h1c : ∀ v ∈ txs l, v.oneCell' = true := fun v hv => by
    obtain ⟨s, _, rfl⟩ := List.mem_map.1 hv
    rfl
  have hnc : l.length ≤ c := by
    rcases ho.2 with ⟨_, h2⟩ | ⟨g, cap, cur, hv, hb, hg, h3, h4, h5, h6⟩
    · omega
    · injection hv with _ _ hc
      omega
  by_cases hroom : l.length + 1 ≤ c
  · obtain ⟨g, post, rfl, hb, hbk, hpl, _, hm⟩ := ho.blk (by omega)
    have hgne : g2 ≠ g := fun e => hne (by rw [e]; rfl)
    cases post with
    | nil => simp at hpl; omega
    | cons r0 post =>
      simp only [List.length_cons] at hpl
      by_cases hin : i = l.length
      · subst hin
        refine (Any2.slices_Insert_string_end_room lays22 g 0 l.length c g2 0 1 1 [.string x] w (by omega) hroom (by unfold maxLen at hm; omega) rfl (fun j hj => ?_) (fun j hj => hbk.free _) hvs h1v).mono ?_
        · have : j = 0 := by omega
          subst this
          rw [Nat.zero_add, Nat.add_zero, hbk.cell (j := l.length) (v := r0) (by rw [List.getElem?_append_right (by omega), htl, Nat.sub_self]; rfl)]
          rfl
        · rintro e w' ⟨rfl, rfl⟩
          have h2 := setCells_mid' (vs := [.string x]) (txs l) [r0] post hbk rfl rfl (show (txs l).length = 0 + l.length by omega)
          refine ⟨_, c, rfl, ?_, (setCells_block _ _ _ _ _ _ hbk).2⟩
          refine OwnS.of hle (post := post) ?_ hb (by omega) hm
          rw [putAt_txs, List.take_of_length_le (by omega), List.drop_of_length_le (by omega)]
          simpa using h2
      · refine (Any2.slices_Insert_string_shift lays22 g 0 l.length c i g2 0 1 1 (txs l) [.string x] w (by omega) (by omega) hroom (by unfold maxLen at hm; omega) hgne htl rfl (cell_txs hbk) (fun j hj => ?_) (fun j hj => hbk.free _) hvs h1c h1v _ _ _ _ hx.shape hbk.shape (by simp) (hx.free _) (hx.free _)).mono ?_
        · rw [Nat.zero_add, hbk.cell (j := j) (List.getElem?_eq_getElem (by simp [htl]; omega))]
          rfl
        · rintro e w' ⟨rfl, rfl⟩
          have hbd : Blk 9 w.drew g (txs l ++ r0 :: post) := hbk
          have hli : i < (txs l).length := by omega
          have e1 : txs l ++ r0 :: post = (txs l).take (i + 1) ++ (((txs l).drop (i + 1) ++ [r0]) ++ post) := by
            rw [List.append_assoc, ← List.append_assoc, List.take_append_drop]
            rfl
          have h2 := setCells_mid' (vs := (txs l).drop i) ((txs l).take (i + 1)) ((txs l).drop (i + 1) ++ [r0]) post hbd e1 (by simp; omega) (show ((txs l).take (i + 1)).length = 0 + (i + 1) by simp; omega)
          have e2 : (txs l).take (i + 1) ++ ((txs l).drop i ++ post) = (txs l).take i ++ ([(txs l)[i]] ++ ((txs l).drop i ++ post)) := by
            rw [List.take_succ_eq_append_getElem hli, List.append_assoc]
          have h3 := setCells_mid' (vs := [.string x]) ((txs l).take i) [(txs l)[i]] ((txs l).drop i ++ post) h2 e2 rfl (show ((txs l).take i).length = 0 + i by simp; omega)
          refine ⟨_, c, rfl, ?_, grownBy_trans (grownBy_trans (grownBy_drew1 (grownBy_refl w (some g))) (setCells_block _ _ _ _ _ _ hbd).2) (setCells_block _ _ _ _ _ _ h2).2⟩
          refine OwnS.of hle (post := post) ?_ hb (by omega) hm
          rw [putAt_txs]
          simpa using h3
  · by_cases hin : i = l.length
    · subst hin
      have hnil : A = none → l.length = 0 := fun e => by
        rcases ho.2 with ⟨_, h2⟩ | ⟨g, cap, cur, hv, _⟩
        · exact h2
        · injection hv with h0 _ _
          rw [e] at h0
          cases h0
      have hcs : ∀ a, A = some a → ∀ j v, (txs l)[j]? = some v → w.cell? (a.add j) = some v := fun a ha j v hv => by
        have hj := (List.getElem?_eq_some_iff.1 hv).1
        obtain ⟨g, post, e, hb, hbk, _⟩ := ho.blk (by omega)
        rw [ha] at e
        injection e with e
        subst e
        rw [add_at]
        exact cell_txs hbk j v hv
      refine (Any2.slices_Insert_string_end_grow lays22 A l.length c g2 0 1 1 (txs l) [.string x] w (by omega) hnc (by omega) (by omega) htl rfl hnil hcs hvs h1v).mono ?_
      rintro e w' ⟨rfl, rfl⟩
      have hge := grownCap_ge w (l.length + 1) c 9
      have hmx := grownCap_le_maxLen w (l.length + 1) c 9 (by unfold maxLen; omega)
      obtain ⟨cap, hcap⟩ : ∃ cap, grownCap w (l.length + 1) c 9 = cap := ⟨_, rfl⟩
      rw [hcap] at hge hmx
      obtain ⟨zs, hzs⟩ : ∃ zs, Builtin.zeroCells (Value.string ⟨#[]⟩).cells (cap - (l.length + 1)) = zs := ⟨_, rfl⟩
      have hzl : zs.size = cap - (l.length + 1) := by rw [← hzs, size_zeroCells]; simp [Value.cells]
      refine ⟨some ⟨w.heap.size, 0, none⟩, cap, by rw [← hcap]; rfl, ?_, grownBy_below (below_of_drew' (below_al w.drew _)) _⟩
      refine OwnS.of hle (post := zs.toList) ?_ hB (by have := Array.length_toList (xs := zs); omega) hmx
      show (w.drew.alloc _).heap[w.heap.size]? = _
      rw [show (lays22_ren.t 9) = 9 from rfl, hcap, hzs]
      have h0 := heap_alloc_new w.drew (.cells ((txs l ++ [Value.string x]).toArray ++ zs) 9)
      rw [show w.drew.heap.size = w.heap.size from rfl] at h0
      rw [h0]
      congr 2
      apply Array.ext'
      rw [putAt_txs, List.take_of_length_le (by omega), List.drop_of_length_le (by omega)]
      simp
    · obtain ⟨g, post, rfl, hb, hbk, _⟩ := ho.blk (by omega)
      refine (Any2.slices_Insert_string_grow lays22 g 0 l.length c i g2 0 1 1 (txs l) [.string x] w (by omega) (by omega) hnc (by omega) (by omega) htl rfl (cell_txs hbk) hvs h1c h1v).mono ?_
      rintro e w' ⟨rfl, rfl⟩
      have hge := grownCap_ge w (l.length + 1) c 9
      have hmx := grownCap_le_maxLen w (l.length + 1) c 9 (by unfold maxLen; omega)
      obtain ⟨cap, hcap⟩ : ∃ cap, grownCap w (l.length + 1) c 9 = cap := ⟨_, rfl⟩
      rw [hcap] at hge hmx
      rw [show (lays22_ren.t 9) = 9 from rfl, hcap]
      obtain ⟨zs, hzs⟩ : ∃ zs, Builtin.zeroCells (Value.string ⟨#[]⟩).cells (cap - (l.length + 1)) = zs := ⟨_, rfl⟩
      have hzl : zs.size = cap - (l.length + 1) := by rw [← hzs, size_zeroCells]; simp [Value.cells]
      obtain ⟨ys, hys⟩ : ∃ ys, Builtin.zeroCells (Value.string ⟨#[]⟩).cells (l.length + 1 - i) = ys := ⟨_, rfl⟩
      have hyl : ys.size = l.length + 1 - i := by rw [← hys, size_zeroCells]; simp [Value.cells]
      rw [hzs, hys]
      have hli : i < (txs l).length := by omega
      have h0 : Blk 9 ((w.alloc (.cells (((txs l).take i).toArray ++ ys ++ zs) 9)).drew) w.heap.size ((txs l).take i ++ (ys.toList ++ zs.toList)) := by
        unfold Blk
        show (w.alloc _).heap[w.heap.size]? = _
        rw [heap_alloc_new]
        congr 2
        apply Array.ext'
        simp
      obtain ⟨y, yt, hyt⟩ : ∃ y yt, ys.toList = y :: yt := by
        cases hh : ys.toList with
        | nil => have := Array.length_toList (xs := ys); rw [hh, hyl] at this; simp at this; omega
        | cons y yt => exact ⟨y, yt, rfl⟩
      have hytl : yt.length = l.length - i := by have := Array.length_toList (xs := ys); rw [hyt, hyl] at this; simp at this; omega
      have h2 := setCells_mid' (vs := [.string x]) ((txs l).take i) [y] (yt ++ zs.toList) h0 (by rw [hyt]; simp) rfl (show ((txs l).take i).length = i by simp; omega)
      have h3 := setCells_mid' (vs := (txs l).drop i) ((txs l).take i ++ [Value.string x]) yt zs.toList h2.drew (by simp) (by simp; omega) (show ((txs l).take i ++ [Value.string x]).length = i + 1 by simp; omega)
      refine ⟨some ⟨w.heap.size, 0, none⟩, cap, rfl, ?_, grownBy_below ?_ _⟩
      · refine OwnS.of hle (post := zs.toList) ?_ hB (by have := Array.length_toList (xs := zs); omega) hmx
        rw [putAt_txs]
        simpa using h3
      · have b1 : Below w.heap.size w ((w.alloc (.cells (((txs l).take i).toArray ++ ys ++ zs) 9)).drew) := (below_al w _).drew
        have b2 := below_grown b1 b1.size (setCells_block _ _ [.string x] i _ _ h0).2 (Nat.le_refl _)
        exact below_grown b2.drew b2.drew.size (setCells_block _ _ ((txs l).drop i) (i + 1) _ _ h2.drew).2 (Nat.le_refl _)
end Go.Proofs.Ytiiogdgnccgehaa
namespace Go.Proofs.Ytiiogdgnccgehaa
open Go.RowKit

/-- the texts rise -/
def Rise (l : List ByteArray) : Prop := l.Pairwise fun a b => lt a b = true
/-- how many are ahead of x -/
def posT (l : List ByteArray) (x : ByteArray) : Nat := (l.takeWhile fun y => lt y x).length
theorem lt_self (x : ByteArray) : lt x x = false := less_irrefl _
theorem lt_tr {a b c : ByteArray} (h : lt a b = true) (k : lt b c = true) : lt a c = true := less_trans _ _ _ h k
theorem lt_tot {a b : ByteArray} (h : lt a b = false) (k : lt b a = false) : a = b := toList_inj (less_total _ _ h k)
theorem posT_le (l : List ByteArray) (x : ByteArray) : posT l x ≤ l.length := (List.takeWhile_sublist _).length_le
theorem posT_cons (y : ByteArray) (l : List ByteArray) (x : ByteArray) : posT (y :: l) x = if lt y x then posT l x + 1 else 0 := by
  unfold posT
  rw [List.takeWhile_cons]
  split <;> simp_all
theorem posT_low : ∀ (l : List ByteArray) (x : ByteArray) (t : Nat) (h : t < l.length), t < posT l x → lt l[t] x = true
  | [], x, t, h, _ => by simp at h
  | y :: l, x, t, h, k => by
    rw [posT_cons] at k
    split at k
    · rename_i hy
      cases t with
      | zero => exact hy
      | succ t => exact posT_low l x t (by simpa using h) (by omega)
    · omega
theorem posT_high : ∀ (l : List ByteArray) (x : ByteArray) (t : Nat) (h : t < l.length), Rise l → posT l x ≤ t → lt l[t] x = false
  | [], x, t, h, _, _ => by simp at h
  | y :: l, x, t, h, hr, k => by
    rw [posT_cons] at k
    obtain ⟨h1, h2⟩ := List.pairwise_cons.1 hr
    split at k
    · cases t with
      | zero => omega
      | succ t => exact posT_high l x t (by simpa using h) h2 (by omega)
    · rename_i hy
      cases t with
      | zero => simpa using hy
      | succ t =>
        cases hq : lt (y :: l)[t + 1] x with
        | false => rfl
        | true =>
          have := lt_tr (h1 _ (List.getElem_mem (show t < l.length by simpa using h))) hq
          exact absurd this hy
theorem posT_mem {l : List ByteArray} {x : ByteArray} (hr : Rise l) : (posT l x < l.length ∧ l.getD (posT l x) x = x) ↔ x ∈ l := by
  constructor
  · rintro ⟨h1, h2⟩
    rw [List.getD_eq_getElem?_getD, List.getElem?_eq_getElem h1] at h2
    rw [← h2]
    exact List.getElem_mem h1
  · intro h
    obtain ⟨t, ht, he⟩ := List.getElem_of_mem h
    have h1 : posT l x ≤ t := by
      rcases Nat.lt_or_ge t (posT l x) with h | h
      · have := posT_low l x t ht h
        rw [he, lt_self] at this
        cases this
      · exact h
    have h2 : posT l x < l.length := by omega
    refine ⟨h2, ?_⟩
    rw [List.getD_eq_getElem?_getD, List.getElem?_eq_getElem h2]
    show l[posT l x] = x
    rcases Nat.eq_or_lt_of_le h1 with h3 | h3
    · simp only [h3]
      exact he
    · have h4 := posT_high l x (posT l x) h2 hr (Nat.le_refl _)
      have h5 := (List.pairwise_iff_getElem.1 hr) _ _ h2 ht h3
      rw [he, h4] at h5
      cases h5
theorem putAt_rise {l : List ByteArray} {x : ByteArray} (hr : Rise l) (hx : x ∉ l) : Rise (putAt l (posT l x) x) := by
  have hpl := posT_le l x
  have h0 : (l.take (posT l x) ++ l.drop (posT l x)).Pairwise fun a b => lt a b = true := by rw [List.take_append_drop]; exact hr
  obtain ⟨h1, h2, h3⟩ := List.pairwise_append.1 h0
  have hlow : ∀ a ∈ l.take (posT l x), lt a x = true := fun a ha => by
    obtain ⟨t, ht, he⟩ := List.getElem_of_mem ha
    rw [List.length_take] at ht
    rw [← he, List.getElem_take]
    exact posT_low l x t (by omega) (by omega)
  have hhigh : ∀ b ∈ l.drop (posT l x), lt x b = true := fun b hb => by
    obtain ⟨t, ht, he⟩ := List.getElem_of_mem hb
    rw [List.length_drop] at ht
    rw [List.getElem_drop] at he
    have h4 := posT_high l x (posT l x + t) (by omega) hr (by omega)
    rw [he] at h4
    cases hq : lt x b with
    | true => rfl
    | false =>
      have := lt_tot h4 hq
      subst this
      exact absurd (he ▸ List.getElem_mem _) hx
  unfold putAt Rise
  rw [List.append_assoc]
  refine List.pairwise_append.2 ⟨h1, List.pairwise_append.2 ⟨List.pairwise_singleton _ _, h2, ?_⟩, ?_⟩
  · intro a ha b hb
    rw [List.mem_singleton] at ha
    subst ha
    exact hhigh b hb
  · intro a ha b hb
    rcases List.mem_append.1 hb with hb | hb
    · rw [List.mem_singleton] at hb
      subst hb
      exact hlow a ha
    · exact h3 a ha b hb
theorem below_drewN (w : World) (q : Nat) : Below w.heap.size w (w.drewN q) := ⟨rfl, rfl, rfl, Nat.le_refl _, fun _ _ => rfl⟩
def memT (l : List ByteArray) (x : ByteArray) : Bool := l.any fun y => decide (y = x)
theorem memT_iff {l : List ByteArray} {x : ByteArray} : memT l x = true ↔ x ∈ l := by
  unfold memT
  rw [List.any_eq_true]
  constructor
  · rintro ⟨y, hy, he⟩
    rw [decide_eq_true_eq] at he
    exact he ▸ hy
  · intro h
    exact ⟨x, h, decide_eq_true rfl⟩
theorem search_any (l : List ByteArray) (A : Option Addr) (c : Nat) (x : ByteArray) (w : World) (hr : Rise l) (hl : Rd w w.heap.size A (txs l)) (hn : l.length ≤ 1000) :
    Calls Try.prog 72 #[.slice A l.length c, .string x] w fun e w' => e = .returned (.tuple #[.int .i64 (posT l x : Nat), .bool (memT l x)]) ∧ Below w.heap.size w w' := by
  cases hlc : l with
  | nil =>
    refine (Any2.slices_BinarySearch_string_empty lays26 A c x w).mono ?_
    rintro e w' ⟨rfl, rfl⟩
    exact ⟨rfl, Below.refl _ _⟩
  | cons y ys =>
    rw [← hlc]
    have hne : txs l ≠ [] := by rw [hlc]; simp [txs]
    obtain ⟨b, o, rfl, hb, hc⟩ := hl.at_ hne
    have hS : ∀ j, j < l.length → w.cell? ⟨b, o + j, none⟩ = some (.string (l.getD j x)) := fun j hj => by
      rw [hc j (by simpa [txs] using hj), List.getD_eq_getElem?_getD, List.getElem?_eq_getElem hj]
      simp [txs]
    refine (Any2.slices_BinarySearch_string lays26 b o l.length c (fun j => l.getD j x) x w (by omega) hS).mono ?_
    have hk : Lib.bsGo (fun t => Op.bytesLess (l.getD t x).toList x.toList) l.length 0 l.length = posT l x := by
      refine Lib.bsGo_spec _ _ (fun t ht => ?_) (fun t ht => ?_) _ _ _ (by omega) (Nat.zero_le _) (posT_le l x)
      · have hl := Nat.lt_of_lt_of_le ht (posT_le l x)
        simp only [List.getD_eq_getElem?_getD, List.getElem?_eq_getElem hl]
        exact posT_low l x t hl ht
      · rcases Nat.lt_or_ge t l.length with h | h
        · simp only [List.getD_eq_getElem?_getD, List.getElem?_eq_getElem h]
          exact posT_high l x t h hr ht
        · simp only [List.getD_eq_getElem?_getD, List.getElem?_eq_none h]
          exact lt_self x
    rw [hk]
    rintro e w' ⟨rfl, q, rfl⟩
    refine ⟨?_, below_drewN w q⟩
    have hd : decide (posT l x < l.length ∧ l.getD (posT l x) x = x) = memT l x := by
      cases hm : memT l x with
      | true => exact decide_eq_true ((posT_mem hr).2 (memT_iff.1 hm))
      | false => exact decide_eq_false (fun h => by have := memT_iff.2 ((posT_mem hr).1 h); rw [hm] at this; cases this)
    rw [hd]
end Go.Proofs.Ytiiogdgnccgehaa
namespace Go.Proofs.Ytiiogdgnccgehaa
open Go.RowKit

def bad (s : Sta) (e : Int) : Sta × Eff := (s, ⟨e, false, [], []⟩)
/-- a border that comes -/
def splitS (s : Sta) (c : Cmd) : Sta × Eff :=
  if c.row.size = 0 ∨ 40 < c.row.size then bad s 1
  else if memT s.borders c.row then bad s 4
  else ({ s with epoch := s.epoch + 1, borders := putAt s.borders (posT s.borders c.row) c.row }, ⟨0, false, [], []⟩)
/-- files that are brought in -/
def ingestS (s : Sta) (c : Cmd) : Sta × Eff :=
  if (findS s.jobs c.job).2 = true ∧ (findS s.jobs c.job).1.sum = c.sum then (s, ⟨0, true, [], []⟩)
  else if (findS s.jobs c.job).2 = true then (s, ⟨191, true, [], []⟩)
  else if c.files = [] then bad s 1
  else if c.epoch ≠ s.epoch then bad s 190
  else ({ s with jobs := s.jobs ++ [⟨c.job, c.sum, s.index⟩] }, ⟨0, false, [], c.files⟩)
def isKl (id : Nat) (x : Kl) : Bool := decide (x.id = id)
/-- a batch that is new -/
def newS (s : Sta) (c : Cmd) : Sta × Eff :=
  let e : Int := if c.cells = [] ∨ twiceL c.cells = true then 1 else 0
  let cells := if c.cells = [] ∨ twiceL c.cells = true then [] else c.cells.map fun x => { x with seq := s.index }
  let l := match s.clients.findIdx? (isKl c.client) with
    | some i => s.clients.take i ++ s.clients.drop (i + 1)
    | none => s.clients
  ({ s with clients := l ++ [⟨c.client, c.num, e⟩] }, ⟨e, false, cells, []⟩)
/-- a batch -/
def batchS (s : Sta) (c : Cmd) : Sta × Eff :=
  match s.clients.find? (isKl c.client) with
  | some was => if c.num = was.num then (s, ⟨was.e, true, [], []⟩) else if c.num < was.num then bad s 4 else newS s c
  | none => newS s c
/-- a text that comes -/
def applyS (s : Sta) (t : ByteArray) : Sta × Eff :=
  let s1 := { s with index := s.index + 1 }
  if t.size = 0 then (s1, ⟨0, false, [], []⟩)
  else if (decC t).2 ≠ 0 then bad s1 (decC t).2
  else if (decC t).1.kind = 1 then batchS s1 (decC t).1
  else if (decC t).1.kind = 2 then splitS s1 (decC t).1
  else ingestS s1 (decC t).1

/-- an address is the old one, or lies between B and E -/
def From (A A' : Option Addr) (B E : Nat) : Prop := ∀ b, blk A' = some b → blk A = some b ∨ (B ≤ b ∧ b < E)
theorem From.refl (A : Option Addr) (B E : Nat) : From A A B E := fun _ h => .inl h
theorem From.new {A A' : Option Addr} {B E : Nat} (h : ∀ b, blk A' = some b → B ≤ b ∧ b < E) : From A A' B E := fun b hb => .inr (h b hb)
structure SFrom (x y : SA) (B E : Nat) : Prop where
  A : From x.A y.A B E
  D : From x.D y.D B E
  F : From x.F y.F B E
theorem SFrom.refl (x : SA) (B E : Nat) : SFrom x x B E := ⟨From.refl _ _ _, From.refl _ _ _, From.refl _ _ _⟩
/-- the effect's cells lie apart from the state's lists -/
def Sep (A : Option Addr) (ys : SA) : Prop := ∀ b, blk A = some b → blk ys.A ≠ some b ∧ blk ys.D ≠ some b ∧ blk ys.F ≠ some b
theorem Sep.nil (ys : SA) : Sep none ys := fun b h => by cases h
theorem own_types {w : World} {B B' e e' z z' n n' c c' : Nat} {A A' : Option Addr} {l l' : List Value} (h : Own w B e z A n c l) (h' : Own w B' e' z' A' n' c' l') (hne : e ≠ e') : ∀ b, blk A = some b → blk A' ≠ some b := fun b hb hb' => by
  obtain ⟨_, h2⟩ := h
  obtain ⟨_, h2'⟩ := h'
  rcases h2 with ⟨h2, _⟩ | ⟨g, cap, cur, hv, _, hh, _⟩
  · injection h2 with h2; subst h2; cases hb
  · rcases h2' with ⟨h2', _⟩ | ⟨g', cap', cur', hv', _, hh', _⟩
    · injection h2' with h2'; subst h2'; cases hb'
    · injection hv with hv
      injection hv' with hv'
      subst hv hv'
      injection hb with hb
      injection hb' with hb'
      simp only at hb hb'
      subst hb hb'
      rw [hh] at hh'
      injection hh' with hh'
      injection hh' with _ hh'
      exact hne hh'
/-- a method of the state in block g gives s' and x -/
def MOut (w : World) (g : Nat) (xs : SA) (DC : Option Addr) (r : Sta × Eff) (e : Ending) (w' : World) : Prop :=
  ∃ (ys : SA) (A : Option Addr) (k : Nat) (D : Option Addr) (m : Nat), e = .returned (.agg (r.2.vs A k D m).toArray) ∧ Blk 47 w' g (r.1.vs ys) ∧ StaIn w' w'.heap.size r.1 ys ∧ SFrom xs ys w.heap.size w'.heap.size ∧
    EffIn w' w.heap.size r.2 A k D m ∧ (D = none ∨ D = DC) ∧ w.grownBy w' (some g) ∧ Sep A ys
theorem Rd.grownOff {w w' : World} {A : Option Addr} {l : List Value} {row : Option Nat} (h : Rd w w.heap.size A l) (hg : w.grownBy w' row) (hne : blk A = none ∨ blk A ≠ row) : Rd w' w'.heap.size A l := fun hn => by
  obtain ⟨b, o, rfl, hb, hc⟩ := h hn
  refine ⟨b, o, rfl, Nat.lt_of_lt_of_le hb hg.size, fun j hj => ?_⟩
  rw [← hc j hj]
  have hk := hg.block b hb (fun e => by
    rcases hne with h | h
    · cases h
    · exact h e)
  simp only [World.cell?, hk]
end Go.Proofs.Ytiiogdgnccgehaa
