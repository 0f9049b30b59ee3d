/-
  The walk of the law MemPuts.
-/
import Derived.Test.YtijicefakfpdcaaShown12
import Derived.Test.YtijicefakfpdcaaRefSpan12
namespace Go.Proofs.Ytijicefakfpdcaa
open Go.RowKit Go.Shelf
attribute [local go_sem ↓] Go.wp_at_zero Go.wp_at_succ

theorem puts_len (l : List Cl) (k : Nat) (h : l.length ≤ 80) : (puts (l.take k)).length ≤ 80 ∧ bytesOf (puts (l.take k)) ≤ 16000 := by
  have h1 := length_puts (l.take k)
  have h2 := bytes_puts (l.take k)
  have h3 : (l.take k).length ≤ l.length := by rw [List.length_take]; omega
  omega
theorem span_le (l : List Cl) (f t : ByteArray) : (span l f t).length ≤ l.length := List.length_filter_le _ _
theorem rowed_le (l : List Cl) (r : ByteArray) : (rowed l r).length ≤ l.length := List.length_filter_le _ _

/-- a table of the call's own has these cells, and a slice beside it reads as those -/
def Two (w W : World) (tb : Nat) (A : Option Addr) (m r : List Cl) : Prop :=
  ∃ S T, Tbl W S tb T m ∧ Below w.heap.size w W ∧ (∀ k ∈ S, w.heap.size ≤ k) ∧ Rd W W.heap.size A (vals r) ∧ ∀ g, blk A = some g → g ∉ S ∧ g < W.heap.size
theorem Two.has {w W : World} {tb : Nat} {A : Option Addr} {m r : List Cl} (h : Two w W tb A m r) : Has w W tb m := by obtain ⟨S, T, h1, h2, h3, _⟩ := h; exact ⟨S, T, h1, h2, h3⟩
theorem Two.rd {w W : World} {tb : Nat} {A : Option Addr} {m r : List Cl} (h : Two w W tb A m r) : Rd W W.heap.size A (vals r) := by obtain ⟨_, _, _, _, _, h, _⟩ := h; exact h
theorem Two.b {w W : World} {tb : Nat} {A : Option Addr} {m r : List Cl} (h : Two w W tb A m r) : Below w.heap.size w W := h.has.b
theorem Two.below {w W W' : World} {tb : Nat} {A : Option Addr} {m r : List Cl} (h : Two w W tb A m r) (hb : Below W.heap.size W W') : Two w W' tb A m r := by
  obtain ⟨S, T, h1, h2, h3, h4, h5⟩ := h
  exact ⟨S, T, h1.below hb, h2.trans (hb.mono h2.size), h3, (h4.below hb).more hb.size, fun g hg => ⟨(h5 g hg).1, Nat.lt_of_lt_of_le (h5 g hg).2 hb.size⟩⟩
theorem Two.new {w W : World} {tb : Nat} (h : Has w W tb []) : Two w (W.alloc (.cells #[] 31)) tb (some ⟨W.heap.size, 0, none⟩) [] [] := by
  have hb := (Below.refl W.heap.size W).alloc (Nat.le_refl _) (.cells #[] 31)
  obtain ⟨S, T, h1, h2, h3⟩ := h
  refine ⟨S, T, h1.below hb, h2.trans (hb.mono h2.size), h3, Rd.nil, fun g hg => ?_⟩
  have hg : W.heap.size = g := by injection hg
  subst hg
  exact ⟨fun hk => Nat.lt_irrefl _ (h1.lt _ hk), by rw [World.size_alloc]; omega⟩
theorem Two.tput {w W : World} {tb : Nat} {A : Option Addr} {m r : List Cl} (h : Two w W tb A m r) (c : Cl) (hl : m.length ≤ 1000) (hy : bytesOf m ≤ 1000000) :
    Calls Try.prog 7 #[.pointer (some ⟨tb, 0, none⟩), c.agg] W fun e W' => e = .returned (.int .i64 (putE m c)) ∧ Two w W' tb A (put m c) r := by
  obtain ⟨S, T, h1, h2, h3, h4, h5⟩ := h
  refine (putT_any W S tb T m c h1 hl hy).mono fun e W' ⟨S', T', k1, k2, k3⟩ => ⟨k1, S', T', k2, k3.below h2 h2.size h3, k3.above h2.size h3, fun hn => ?_, fun g hg => ⟨k3.out (h5 g hg).2 (h5 g hg).1, Nat.lt_of_lt_of_le (h5 g hg).2 k3.size⟩⟩
  obtain ⟨b, o, e1, hb, hc⟩ := h4 hn
  have hk := h5 b (by rw [e1]; rfl)
  exact ⟨b, o, e1, Nat.lt_of_lt_of_le hb k3.size, fun j hj => (World.cell?_of_block (a := ⟨b, _, none⟩) (k3.block b hk.2 hk.1)).trans (hc j hj)⟩
theorem Two.ref {w W : World} {tb : Nat} {A : Option Addr} {m r : List Cl} (h : Two w W tb A m r) (c : Cl) (cap : Nat) (hcap : r.length ≤ cap) (hlen : r.length ≤ 1000) (hu : Up r) :
    Calls Try.prog 8 #[.slice A r.length cap, c.agg] W fun e W' => ∃ (A' : Option Addr) (c' : Nat), e = .returned (.tuple #[.slice A' (put r c).length c', .int .i64 (putE r c)]) ∧ (put r c).length ≤ c' ∧ Two w W' tb A' m (put r c) := by
  have hrd := h.rd
  obtain ⟨S, T, h1, h2, h3, h4, h5⟩ := h
  refine (refPut_any A cap r c W hrd hcap hlen hu).mono fun e W' ⟨A', c', k1, k2, k3, k4, k5⟩ => ⟨A', c', k1, k3, S, T, h1.below k4, h2.trans (k4.mono h2.size), h3, k2, fun g hg => ?_⟩
  rcases k5 g hg with h | h
  · exact ⟨(h5 g h).1, Nat.lt_of_lt_of_le (h5 g h).2 k4.size⟩
  · exact ⟨fun hk => by have := h1.lt g hk; omega, h.2⟩
theorem Two.clear {w W : World} {tb : Nat} {A : Option Addr} {m r : List Cl} (h : Two w W tb A m r) :
    Calls Try.prog 18 #[.pointer (some ⟨tb, 0, none⟩)] W fun e W' => e = .returned (.tuple #[]) ∧ Has w W' tb [] := by
  obtain ⟨S, T, h1, h2, h3, _⟩ := h
  exact (clearT_any W S tb T m h1).mono fun e W' ⟨k1, k2, k3⟩ => ⟨k1, [tb], .leaf, k2, k3.below h2 h2.size h3, k3.above h2.size h3⟩

set_option maxHeartbeats 8000000 in
theorem memPuts_any (A : Option Addr) (c : Nat) (l : List Cl) (from_ to_ row : ByteArray) (w : World) (hl : Rd w w.heap.size A (vals l)) (hlen : l.length ≤ maxLen) :
    Calls Try.prog 3 #[.slice A l.length c, .string from_, .string to_, .string row] w fun e w' => e = .returned (.bool true) ∧ Below w.heap.size w w' := by
  have HL := Lib.hid hlen
  clear hlen
  go_enter Try.func3, Try.ntmps3
  by_cases hb : bnd l = true
  rotate_left
  · have hb : bnd l = false := by simpa using hb
    go_wp2_with (first
      | (go_at_call 4; refine (bounded_any A c l _ _ hl HL.out).mono ?_; rw [hb]; rintro e w1 ⟨rfl, rfl⟩)
      | (go_at_call 5; refine (shown_any _).mono ?_; rintro e w1 ⟨rfl, hb1⟩))
    go_ret
    exact ⟨rfl, hb1⟩
  by_cases ha : from_.size ≤ 100
  rotate_left
  · have ha2 : decide (100 < (from_.size : Int)) = true := decide_eq_true (by omega)
    go_wp2_with (first
      | (go_at_call 4; refine (bounded_any A c l _ _ hl HL.out).mono ?_; rw [hb]; rintro e w1 ⟨rfl, rfl⟩)
      | (go_at_call 5; refine (shown_any _).mono ?_; rintro e w1 ⟨rfl, hb1⟩))
    go_ret
    exact ⟨rfl, hb1⟩
  have ha1 : decide (100 < (from_.size : Int)) = false := decide_eq_false (by omega)
  by_cases hc : to_.size ≤ 100
  rotate_left
  · have ha2 : decide (100 < (to_.size : Int)) = true := decide_eq_true (by omega)
    go_wp2_with (first
      | (go_at_call 4; refine (bounded_any A c l _ _ hl HL.out).mono ?_; rw [hb]; rintro e w1 ⟨rfl, rfl⟩)
      | (go_at_call 5; refine (shown_any _).mono ?_; rintro e w1 ⟨rfl, hb1⟩))
    go_ret
    exact ⟨rfl, hb1⟩
  have ha2 : decide (100 < (to_.size : Int)) = false := decide_eq_false (by omega)
  by_cases hd : row.size ≤ 100
  rotate_left
  · have ha3 : decide (100 < (row.size : Int)) = true := decide_eq_true (by omega)
    go_wp2_with (first
      | (go_at_call 4; refine (bounded_any A c l _ _ hl HL.out).mono ?_; rw [hb]; rintro e w1 ⟨rfl, rfl⟩)
      | (go_at_call 5; refine (shown_any _).mono ?_; rintro e w1 ⟨rfl, hb1⟩))
    go_ret
    exact ⟨rfl, hb1⟩
  have ha3 : decide (100 < (row.size : Int)) = false := decide_eq_false (by omega)
  have hb80 := bnd_len hb
  go_wp2_with (first
    | (go_at_call 4; refine (bounded_any A c l _ _ hl HL.out).mono ?_; rw [hb]; rintro e w1 ⟨rfl, rfl⟩)
    | (go_at_call 5; refine (shown_any _).mono ?_; rintro e w1 ⟨rfl, hb1⟩)
    | (go_at_call 6; refine (Has.new hb1).mono ?_; rintro e w2 ⟨rfl, hh2⟩; have HH2 := Lib.hid (Two.new hh2); clear hh2))
  obtain ⟨tb, htb⟩ : ∃ tb, w1.heap.size = tb := ⟨_, rfl⟩
  rw [htb] at HH2 ⊢
  have HLR := Lib.hid hl
  clear hl hb ha1 ha2 ha3 ha hc hd
  go_loopw [10, 11] (fun s i wr => ∃ (k : Nat) (A1 : Option Addr) (c1 : Nat), s = .slice A1 (puts (l.take k)).length c1 ∧ i = .int .i64 k ∧ k ≤ l.length ∧ (puts (l.take k)).length ≤ c1 ∧ Hid (Two w wr tb A1 (puts (l.take k)) (puts (l.take k)))) (fun _ i _ => l.length - (intOf i).toNat)
  case atStart => exact ⟨0, _, 0, rfl, rfl, Nat.zero_le _, Nat.le_refl _, HH2⟩
  case round =>
    obtain ⟨k, A1, c1, rfl, rfl, hk, hc1, HH⟩ := hrel
    rename World => wz
    by_cases hlt : k < l.length
    · have HPS := Lib.hid (puts_succ hlt)
      have hpl := puts_len l k hb80
      have HUP := Lib.hid (up_puts (l.take k))
      obtain ⟨m, hm⟩ : ∃ m, puts (l.take k) = m := ⟨_, rfl⟩
      rw [hm] at HH HPS hpl hc1 HUP ⊢
      obtain ⟨b, o, rfl, hbl, hcl⟩ := (HLR.out.below HH.out.b).at_ (vals_ne hlt)
      obtain ⟨l0, l1, l2, l3, l4, l5⟩ := Rd.cell_at (B := 0) hcl k hlt
      clear hcl hm
      go_wp2_with (first
        | (go_at_call 7; refine (HH.out.tput l[k] (by omega) (by omega)).mono ?_; rintro e w3 ⟨rfl, hh3⟩; have HH3 := Lib.hid hh3; clear hh3 l0 l1 l2 l3 l4 l5; obtain ⟨b', o', e', hb', hcl'⟩ := (HLR.out.below HH3.out.b).at_ (vals_ne hlt); obtain ⟨rfl, rfl⟩ : b = b' ∧ o = o' := (by injection e' with e'; injection e' with e1 e2; exact ⟨e1, e2⟩); obtain ⟨l0, l1, l2, l3, l4, l5⟩ := Rd.cell_at (B := 0) hcl' k hlt; clear hcl' e' hb')
        | (go_at_call 8; have M := HH3; clear M; refine (HH3.out.ref l[k] c1 (by omega) (by omega) HUP.out).mono ?_; rintro e w4 ⟨A4, c4, rfl, hc4, hh4⟩; have HH4 := Lib.hid hh4; clear hh4))
      exact ⟨⟨k + 1, A4, c4, by rw [HPS.out], by first | rfl | go_num, by omega, by rw [HPS.out]; exact hc4, by rw [HPS.out]; exact HH4⟩, by simp [intOf]; omega⟩
    · have hk2 : k = l.length := by omega
      subst hk2
      rw [List.take_length] at HH hc1 ⊢
      have hpl := puts_len l l.length hb80
      rw [List.take_length] at hpl
      have hmay := puts_may l
      obtain ⟨m, hm⟩ : ∃ m, puts l = m := ⟨_, rfl⟩
      rw [hm] at HH hpl hc1 hmay ⊢
      have HMAY := Lib.hid hmay
      have hp1 := span_le m from_ to_
      have hp2 := rowed_le m row
      have M0 : Hid True := trivial
      clear hm HH2 hb1 HLR hmay
      go_wp2_with (first
        | (go_at_call 10; have M := M0; refine (HH.out.has.cells (by omega)).mono ?_; rintro e w3 ⟨⟨A3, c3, rfl, ho3, hb3⟩, _⟩;
           have HN3 := Lib.hid (And.intro (Own.rd ho3 (by omega)) (HH.out.below hb3)); clear M0 M ho3 hb3)
        | (go_at_call 9; have M := HN3; clear M; refine (sameCells_any A3 A1 c3 c1 m m _ w3.heap.size HN3.out.1 HN3.out.2.rd (by unfold maxLen; omega) (by unfold maxLen; omega)).mono ?_; rw [decide_eq_true rfl]; rintro e w4 ⟨rfl, n4, rfl⟩; have HN4 := Lib.hid (HN3.out.2.below (below_drewN (Below.refl _ _) n4)); clear HN3)
        | (go_at_call 11; have M := HN4; clear M; refine (HN4.out.has.span from_ to_ (by omega)).mono ?_; rintro e w5 ⟨⟨A5, c5, rfl, ho5, hb5⟩, _⟩;
           have HN5 := Lib.hid (And.intro (Own.rd ho5 (by omega)) (HN4.out.below hb5)); clear HN4 ho5 hb5)
        | (go_at_call 12; have M := HN5; clear M; refine (refSpan_any A1 c1 m from_ to_ _ HN5.out.2.rd (by omega)).mono ?_; rintro e w6 ⟨A6, c6, rfl, ho6, hb6⟩;
           have HN6 := Lib.hid (And.intro ((HN5.out.1.below hb6).more hb6.size) (And.intro (Own.rd ho6 (by omega)) (HN5.out.2.below hb6))); clear HN5 ho6 hb6)
        | (go_at_call 9; have M := HN6; clear M; refine (sameCells_any A5 A6 c5 c6 _ _ _ w6.heap.size HN6.out.1 HN6.out.2.1 (by unfold maxLen; omega) (by unfold maxLen; omega)).mono ?_; rw [decide_eq_true rfl]; rintro e w7 ⟨rfl, n7, rfl⟩; have HN7 := Lib.hid (HN6.out.2.2.below (below_drewN (Below.refl _ _) n7)); clear HN6)
        | (go_at_call 13; have M := HN7; clear M; refine (HN7.out.has.row row (by omega)).mono ?_; rintro e w8 ⟨⟨A8, c8, rfl, ho8, hb8⟩, _⟩;
           have HN8 := Lib.hid (And.intro (Own.rd ho8 (by omega)) (HN7.out.below hb8)); clear HN7 ho8 hb8)
        | (go_at_call 14; have M := HN8; clear M; refine (refRow_any A1 c1 m row _ HN8.out.2.rd (by omega)).mono ?_; rintro e w9 ⟨A9, c9, rfl, ho9, hb9⟩;
           have HN9 := Lib.hid (And.intro ((HN8.out.1.below hb9).more hb9.size) (And.intro (Own.rd ho9 (by omega)) (HN8.out.2.below hb9))); clear HN8 ho9 hb9)
        | (go_at_call 9; have M := HN9; clear M; refine (sameCells_any A8 A9 c8 c9 _ _ _ w9.heap.size HN9.out.1 HN9.out.2.1 (by unfold maxLen; omega) (by unfold maxLen; omega)).mono ?_; rw [decide_eq_true rfl]; rintro e wa ⟨rfl, na, rfl⟩; have HNa := Lib.hid (HN9.out.2.2.below (below_drewN (Below.refl _ _) na)); clear HN9)
        | (go_at_call 15; have M := HNa; clear M; refine (HNa.out.has.many).mono ?_; rintro e wb ⟨rfl, rfl⟩)
        | (go_at_call 16; have M := HNa; clear M; refine (HNa.out.has.bytes).mono ?_; rintro e wc ⟨rfl, rfl⟩)
        | (go_at_call 17; have M := HNa; clear M; refine (refBytes_any A1 c1 m _ HNa.out.rd (by omega) HMAY.out).mono ?_; rintro e wd ⟨rfl, hbd⟩; have HNd := Lib.hid (HNa.out.below hbd); clear HNa hbd))
      go_loopw [15] (fun i wr => ∃ k : Nat, k ≤ m.length ∧ i = .int .i64 k ∧ Hid (Two w wr tb A1 m m)) (fun i _ => m.length - (intOf i).toNat)
      case atStart => exact ⟨0, Nat.zero_le _, rfl, HNd⟩
      case round =>
        obtain ⟨k, hk, rfl, HH⟩ := hrel
        rename World => wy
        by_cases hlt : k < m.length
        · obtain ⟨mr, hmr⟩ : ∃ mr, m[k].row = mr := ⟨_, rfl⟩
          have hp3 := rowed_le m mr
          obtain ⟨b, o, rfl, hbl, hcl⟩ := HH.out.rd.at_ (vals_ne hlt)
          have r0 := (Rd.cell_at (B := 0) hcl k hlt).1
          rw [hmr] at r0
          clear hcl hmr
          have i1 : (0 : Int) ≤ (k : Int) := by omega
          have i2 : (k : Int) < (m.length : Int) := by omega
          have hCC : ∀ W W', Below W.heap.size W W' → (fun W' : World => W'.cell? ⟨b, o + k * 6, none⟩ = some (.string mr) ∧ b < W'.heap.size ∧ Two w W' tb (some ⟨b, o, none⟩) m m) W → (fun W' : World => W'.cell? ⟨b, o + k * 6, none⟩ = some (.string mr) ∧ b < W'.heap.size ∧ Two w W' tb (some ⟨b, o, none⟩) m m) W' := by
            rintro W W' hbb ⟨h1, h2, h3⟩
            exact ⟨(hbb.cell (p := ⟨b, o + k * 6, none⟩) h2).trans h1, Nat.lt_of_lt_of_le h2 hbb.size, h3.below hbb⟩
          have HC := hCC _ _ ((Below.refl wy.heap.size wy).drew) ⟨by simpa using r0, hbl, HH.out⟩
          clear r0 HH hbl
          go_wp2
          refine region_wz (fun W' : World => W'.cell? ⟨b, o + k * 6, none⟩ = some (.string mr) ∧ b < W'.heap.size ∧ Two w W' tb (some ⟨b, o, none⟩) m m) none (by kernel_rfl) ?_
          apply WZ.take (i := 0) (some 115) rfl rfl (by kernel_rfl) (by kernel_rfl) (by kernel_rfl) (calm_panic _) (by kernel_rfl)
          case hy => (refine .inl ⟨by kernel_rfl, fun W hC => ?_⟩; (try dsimp only at hC); go_simp; rfl)
          case hC => exact HC
          case ha => (simp only [Act.put, List.setIfInBounds_toArray, List.set_cons_zero, List.set_cons_succ]; rfl)
          apply WZ.take (i := 1) (some 116) rfl rfl (by kernel_rfl) (by kernel_rfl) (by kernel_rfl) (calm_panic _) (by kernel_rfl)
          case hy => (refine .inl ⟨by kernel_rfl, fun W hC => ?_⟩; (try dsimp only at hC); go_simp; rfl)
          case hC => exact HC
          case ha => (simp only [Act.put, List.setIfInBounds_toArray, List.set_cons_zero, List.set_cons_succ]; rfl)
          apply WZ.take (i := 2) (some 117) rfl rfl (by kernel_rfl) (by kernel_rfl) (by kernel_rfl) (calm_panic _) (by kernel_rfl)
          case hy => (refine .inl ⟨by kernel_rfl, fun W hC => ?_⟩; (try dsimp only at hC); go_simp; rfl)
          case hC => exact HC
          case ha => (simp only [Act.put, List.setIfInBounds_toArray, List.set_cons_zero, List.set_cons_succ]; rfl)
          apply WZ.take (i := 3) (some 118) rfl rfl (by kernel_rfl) (by kernel_rfl) (by kernel_rfl) (calm_panic _) (by kernel_rfl)
          case hy => (refine .inl ⟨by kernel_rfl, fun W hC => ?_⟩; (try dsimp only at hC); go_simp; rfl)
          case hC => exact HC
          case ha => (simp only [Act.put, List.setIfInBounds_toArray, List.set_cons_zero, List.set_cons_succ]; rfl)
          apply WZ.take (i := 4) (some 119) rfl rfl (by kernel_rfl) (by kernel_rfl) (by kernel_rfl) (calm_panic _) (by kernel_rfl)
          case hy => (refine .inl ⟨by kernel_rfl, fun W hC => ?_⟩; (try dsimp only at hC); go_simp; rfl)
          case hC => exact HC
          case ha => (simp only [Act.put, List.setIfInBounds_toArray, List.set_cons_zero, List.set_cons_succ]; rfl)
          apply WZ.take (i := 5) (some 120) rfl rfl (by kernel_rfl) (by kernel_rfl) (by kernel_rfl) (calm_panic _) (by kernel_rfl)
          case hy => (refine .inl ⟨by kernel_rfl, fun W hC => ?_⟩; (try dsimp only at hC); go_simp; rfl)
          case hC => exact HC
          case ha => (simp only [Act.put, List.setIfInBounds_toArray, List.set_cons_zero, List.set_cons_succ]; rfl)
          apply WZ.take (i := 7) (some 122) rfl rfl (by kernel_rfl) (by kernel_rfl) (by kernel_rfl) (calm_panic _) (by kernel_rfl)
          case hy => (refine .inl ⟨by kernel_rfl, fun W hC => ?_⟩; (try dsimp only at hC); go_simp; rfl)
          case hC => exact HC
          case ha => (simp only [Act.put, List.setIfInBounds_toArray, List.set_cons_zero, List.set_cons_succ]; rfl)
          apply WZ.take (i := 8) (some 123) rfl rfl (by kernel_rfl) (by kernel_rfl) (by kernel_rfl) (calm_panic _) (by kernel_rfl)
          case hy => (refine .inl ⟨by kernel_rfl, fun W hC => ?_⟩; (try dsimp only at hC); go_simp; rfl)
          case hC => exact HC
          case ha => (simp only [Act.put, List.setIfInBounds_toArray, List.set_cons_zero, List.set_cons_succ]; rfl)
          apply WZ.take (i := 9) (some 124) rfl rfl (by kernel_rfl) (by kernel_rfl) (by kernel_rfl) (calm_panic _) (by kernel_rfl)
          case hy => (refine .inl ⟨by kernel_rfl, fun W hC => ?_⟩; (try dsimp only at hC); go_simp; rfl)
          case hC => exact HC
          case ha => (simp only [Act.put, List.setIfInBounds_toArray, List.set_cons_zero, List.set_cons_succ]; rfl)
          apply WZ.take (i := 10) (some 125) rfl rfl (by kernel_rfl) (by kernel_rfl) (by kernel_rfl) (calm_panic _) (by kernel_rfl)
          case hy => (refine .inl ⟨by kernel_rfl, fun W hC => ?_⟩; (try dsimp only at hC); go_simp; rfl)
          case hC => exact HC
          case ha => (simp only [Act.put, List.setIfInBounds_toArray, List.set_cons_zero, List.set_cons_succ]; rfl)
          apply WZ.take (i := 11) (some 126) rfl rfl (by kernel_rfl) (by kernel_rfl) (by kernel_rfl) (calm_panic _) (by kernel_rfl)
          case hy => (refine .inl ⟨by kernel_rfl, fun W hC => ?_⟩; (try dsimp only at hC); go_simp; rfl)
          case hC => exact HC
          case ha => (simp only [Act.put, List.setIfInBounds_toArray, List.set_cons_zero, List.set_cons_succ]; rfl)
          apply WZ.take (i := 12) (some 127) rfl rfl (by kernel_rfl) (by kernel_rfl) (by kernel_rfl) (calm_panic _) (by kernel_rfl)
          case hy => (refine .inl ⟨by kernel_rfl, fun W hC => ?_⟩; (try dsimp only at hC); go_simp; rfl)
          case hC => exact HC
          case ha => (simp only [Act.put, List.setIfInBounds_toArray, List.set_cons_zero, List.set_cons_succ]; rfl)
          -- 6
          refine WZ.one (i := 6) rfl (by kernel_rfl) ?_
          conv => arg 4; arg 1; whnf
          go_wp2_with (go_at_call 13; refine (HC.2.2.has.row mr (by omega)).mono ?_; rintro e w8 ⟨⟨A8, c8, rfl, ho8, hb8⟩, _⟩; have HC' := hCC _ _ hb8 HC; have HN8 := Lib.hid (Own.rd ho8 (by omega)))
          clear HC ho8
          have HC := HC'
          clear HC' hb8
          refine ⟨HC, ?_⟩
          -- 13
          refine WZ.one (i := 13) rfl (by kernel_rfl) ?_
          conv => arg 4; arg 1; whnf
          go_wp2_with (go_at_call 14; refine (refRow_any _ c1 m mr _ HC.2.2.rd (by omega)).mono ?_; rintro e w9 ⟨A9, c9, rfl, ho9, hb9⟩; have HC' := hCC _ _ hb9 HC; have HN9 := Lib.hid (And.intro ((HN8.out.below hb9).more hb9.size) (Own.rd ho9 (by omega))))
          clear HC ho9 HN8
          have HC := HC'
          clear HC' hb9
          refine ⟨HC, ?_⟩
          -- 14
          refine WZ.one (i := 14) rfl (by kernel_rfl) ?_
          conv => arg 4; arg 1; whnf
          go_wp2_with (go_at_call 9; refine (sameCells_any A8 A9 c8 c9 _ _ _ w9.heap.size HN9.out.1 HN9.out.2 (by unfold maxLen; omega) (by unfold maxLen; omega)).mono ?_; rw [decide_eq_true rfl]; rintro e wa ⟨rfl, na, rfl⟩; have HC' := hCC _ _ (below_drewN (Below.refl _ _) na) HC)
          clear HC HN9
          have HC := HC'
          clear HC'
          refine ⟨HC, ?_⟩
          apply WZ.take (i := 15) (some 130) rfl rfl (by kernel_rfl) (by kernel_rfl) (by kernel_rfl) (calm_panic _) (by kernel_rfl)
          case hy => (refine .inl ⟨by kernel_rfl, fun W hC => ?_⟩; (try dsimp only at hC); go_simp; rfl)
          case hC => exact HC
          case ha => (simp only [Act.put, List.setIfInBounds_toArray, List.set_cons_zero, List.set_cons_succ]; rfl)
          refine WZ.done (by kernel_rfl) ?_ _
          simp only [Calm, Exit.then]
          have HE := Lib.hid HC.2.2
          clear HC hCC
          go_wp2
          exact ⟨⟨k + 1, by omega, by first | rfl | go_num, HE⟩, by simp [intOf]; omega⟩
        · have hk3 : k = m.length := by omega
          subst hk3
          clear HNd
          go_wp2_with (first
            | (go_at_call 18; refine (HH.out.clear).mono ?_; rintro e w5 ⟨rfl, hh5⟩; have HZ := Lib.hid hh5; clear hh5)
            | (go_at_call 15; refine (HZ.out.many).mono ?_; rintro e wb ⟨rfl, rfl⟩)
            | (go_at_call 16; refine (HZ.out.bytes).mono ?_; rintro e wc ⟨rfl, rfl⟩; rw [show bytesOf [] = 0 from rfl])
            | (go_at_call 10; refine (HZ.out.cells (by decide)).mono ?_; rintro e w6 ⟨⟨A6, c6, rfl, ho6, hb6⟩, hz6⟩; have HZ6 := Lib.hid hz6.b; clear ho6 hb6 hz6))
          go_ret
          exact ⟨rfl, HZ6.out⟩
end Go.Proofs.Ytijicefakfpdcaa
