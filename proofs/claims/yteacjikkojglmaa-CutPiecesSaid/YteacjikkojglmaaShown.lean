/-
  The walk of shown: what the law shows of cut at cells of its own.
-/
import Derived.Test.YteacjikkojglmaaAll
import Derived.Test.YteacjikkojglmaaRefSplit
namespace Go.Proofs.Yteacjikkojglmaa
open Go.RowKit Go.Shelf
attribute [local go_sem ↓] Go.wp_at_zero Go.wp_at_succ

def shownCells : List Cl := [⟨⟨#[97]⟩, ⟨#[99]⟩, 0, 0, false, ⟨#[]⟩⟩, ⟨⟨#[109]⟩, ⟨#[99]⟩, 0, 0, false, ⟨#[]⟩⟩, ⟨⟨#[122]⟩, ⟨#[99]⟩, 0, 0, false, ⟨#[]⟩⟩]
def shownB : List ByteArray := [⟨#[109]⟩]
theorem shown_rising : rising shownCells = true := by kernel_rfl
theorem shown_borders : borders shownB = true := by kernel_rfl
theorem shown_split : splitAt shownCells shownB = [[⟨⟨#[97]⟩, ⟨#[99]⟩, 0, 0, false, ⟨#[]⟩⟩], [⟨⟨#[109]⟩, ⟨#[99]⟩, 0, 0, false, ⟨#[]⟩⟩, ⟨⟨#[122]⟩, ⟨#[99]⟩, 0, 0, false, ⟨#[]⟩⟩]] := by kernel_rfl
theorem shown_pieces : (pieces 1 (splitAt shownCells shownB) (shownB.length + 1)).map (·.1) = [0, 1, 1] := by kernel_rfl
theorem shown_place : place shownB ⟨#[109]⟩ = 1 := by kernel_rfl

theorem Own.atN {w : World} {base e size n c : Nat} {A : Option Addr} {xs : List Value} (h : Own w base e size A n c xs) (hn : 0 < n) (hs : 0 < size) : ∃ g, A = some ⟨g, 0, none⟩ ∧ base ≤ g ∧ g < w.heap.size ∧ ∀ j (hj : j < xs.length), w.cell? ⟨g, j, none⟩ = some xs[j] := by
  have hr := h.rd hs
  have hl := h.1
  rcases h.2 with ⟨_, h2⟩ | ⟨g, cap, cur, hv, hg, hh, h3, h4, h5, h6⟩
  · omega
  · injection hv with hA
    subst hA
    obtain ⟨b, o, e1, hb, hc⟩ := hr (fun e => by rw [e] at hl; have := Nat.mul_pos hn hs; simp at hl; omega)
    injection e1 with e1
    injection e1 with e2 e3
    subst e2
    subst e3
    exact ⟨g, rfl, hg, hb, fun j hj => by have := hc j hj; rwa [Nat.zero_add] at this⟩

set_option maxHeartbeats 2000000 in
theorem shown_any (w : World) :
    Calls Try.prog 10 #[] w fun e w' => e = .returned (.bool true) ∧ Below w.heap.size w w' := by
  obtain ⟨W1, hW1⟩ : ∃ W1, w.alloc (.cells #[.string ⟨#[97]⟩, .string ⟨#[99]⟩, .int .u64 0, .int .u64 0, .bool false, .string ⟨#[]⟩, .string ⟨#[109]⟩, .string ⟨#[99]⟩, .int .u64 0, .int .u64 0, .bool false, .string ⟨#[]⟩, .string ⟨#[122]⟩, .string ⟨#[99]⟩, .int .u64 0, .int .u64 0, .bool false, .string ⟨#[]⟩] 50) = W1 := ⟨_, rfl⟩
  have hz1 : W1.heap.size = w.heap.size + 1 := by rw [← hW1, World.size_alloc]
  have hl1 : Rd W1 W1.heap.size (some ⟨w.heap.size, 0, none⟩) (vals shownCells) := by rw [hz1, ← hW1]; exact Rd.newAll w _ _
  have hB1 : Below w.heap.size w W1 := by rw [← hW1]; exact (Below.refl _ _).alloc (Nat.le_refl _) _
  have hl2 := hl1.alloc (Nat.le_refl _) (.cells #[.string ⟨#[109]⟩] 9)
  have hs2 : Rd (W1.alloc (.cells #[.string ⟨#[109]⟩] 9)) (W1.heap.size + 1) (some ⟨W1.heap.size, 0, none⟩) (strs shownB) := Rd.newAll _ _ _
  have hz2 := World.size_alloc W1 (.cells #[.string ⟨#[109]⟩] 9)
  have hB2 := hB1.alloc (by omega) (.cells #[.string ⟨#[109]⟩] 9)
  have HW := Lib.hid hW1
  clear hW1
  go_enter Try.func10, Try.ntmps10
  go_wp2_with (first
    | (rw [HW.out, ← hz1]; go_at_call 11; refine (cutSplit_ok (some ⟨w.heap.size, 0, none⟩) (some ⟨W1.heap.size, 0, none⟩) 3 1 shownCells shownB _ (hl2.more (by omega)) (by rw [hz2]; exact hs2) (by decide) (by decide) (by decide) shown_borders shown_rising).mono ?_; rintro e w2 ⟨A1, n1, c1, vs, rfl, ho1, hls1, hb1⟩
       obtain rfl : n1 = 2 := by rw [← ho1.vals_len, hls1.1, shown_split]; rfl
       have hl3 := ((hl2.more (by omega)).below hb1).alloc hb1.size (.cells #[.string ⟨#[109]⟩] 9)
       have hs3 : Rd (w2.alloc (.cells #[.string ⟨#[109]⟩] 9)) (w2.heap.size + 1) (some ⟨w2.heap.size, 0, none⟩) (strs shownB) := Rd.newAll _ _ _
       have hz3 := World.size_alloc w2 (.cells #[.string ⟨#[109]⟩] 9)
       have hbz := hb1.size
       have hB3 : Below w.heap.size w (w2.alloc (.cells #[.string ⟨#[109]⟩] 9)) := (hB2.trans (hb1.mono (by omega))).alloc (by omega) _
       have hv2 : vs.length = 2 := ho1.vals_len
       obtain ⟨A0, c0, hv0, _⟩ := hls1.2 0 (by omega) (by rw [shown_split]; decide)
       have hv0' : vs[0] = .slice A0 1 c0 := by rw [hv0]; simp only [shown_split]; rfl
       have ho3 := Own.alloc ho1 (.cells #[.string ⟨#[109]⟩] 9))
    | (go_at_call 20; refine (cutAll_ok (some ⟨w.heap.size, 0, none⟩) (some ⟨w2.heap.size, 0, none⟩) 3 1 shownCells shownB 1 _ (hl3.more (by omega)) (by rw [hz3]; exact hs3) (by decide) (by decide) (by decide) shown_borders shown_rising (by decide) (by decide)).mono ?_; rintro e w4 ⟨A2, n2, c2, us, rfl, ⟨ho4, hls4, hn4⟩, hb4⟩
       obtain rfl : n2 = 3 := by rw [← hn4, ← List.length_map (f := (·.1)), shown_pieces]; rfl
       rw [shown_pieces] at ho4
       have hu : us.length = 3 := by rw [hls4.1, List.length_map]; exact hn4
       obtain ⟨g2, rfl, _, _, hrow2⟩ := ho4.atN (by decide) (by decide)
       have hx2 := hrow2 4 (by rw [pcs_length _ _ (by rw [hu]; rfl), hu]; decide)
       have hpg := (pcs_get [0, 1, 1] us (by rw [hu]; rfl) 2 (by omega) (by rw [pcs_length _ _ (by rw [hu]; rfl), hu]; decide) (by rw [pcs_length _ _ (by rw [hu]; rfl), hu]; decide)).1
       have hx3 : w4.cell? ⟨g2, 4, none⟩ = some (.int .i64 1) := hx2.trans (congrArg some hpg)
       obtain ⟨g1, rfl, _, _, hrow1⟩ := (Own.below ho3 hb4).atN (by decide) (by decide)
       have hx1 := hrow1 0 (by omega)
       rw [hv0'] at hx1
       have hb4z := hb4.size
       have hB4 : Below w.heap.size w w4 := hB3.trans (hb4.mono (by omega))
       clear hx2 hpg hrow1 hrow2 hls4 ho4 hls1 ho1 ho3 hl3 hl2 hl1 hs2 hb1)
    | (go_at_call 16; refine (cutPlace_any (some ⟨w4.heap.size, 0, none⟩) 1 shownB ⟨#[109]⟩ _ (w4.heap.size + 1) (Rd.newAll _ _ _) (by decide)).mono ?_; rw [shown_place]; rintro e w5 ⟨rfl, rfl⟩))
  go_ret
  exact ⟨rfl, hB4.alloc (by have := hB4.size; omega) _⟩
end Go.Proofs.Yteacjikkojglmaa
