/-
  The walk of the reference's put and find.
-/
import Derived.Test.YtaeemeoffnhgfaaGood13
namespace Go.Proofs.Ytaeemeoffnhgfaa
open Go.RowKit
attribute [local go_sem ↓] Go.wp_at_zero Go.wp_at_succ

/-- a file, put in its place -/
def putF (l : List Fi) (f : Fi) : List Fi := l.takeWhile (fun x => lessF x f) ++ f :: l.dropWhile (fun x => lessF x f)
theorem putF_at : ∀ {l : List Fi} {f : Fi} {k : Nat}, k ≤ l.length → (∀ j (h : j < l.length), j < k → lessF l[j] f = true) → (∀ h : k < l.length, lessF l[k] f = false) → putF l f = l.take k ++ f :: l.drop k
  | [], f, k, hk, _, _ => by
    have : k = 0 := by simpa using hk
    subst this
    rfl
  | x :: l, f, 0, _, _, h2 => by
    have := h2 (Nat.succ_pos _)
    unfold putF
    simp only [List.getElem_cons_zero] at this
    rw [List.takeWhile_cons, List.dropWhile_cons, this]
    rfl
  | x :: l, f, k + 1, hk, h1, h2 => by
    have h0 := h1 0 (Nat.succ_pos _) (Nat.succ_pos _)
    simp only [List.getElem_cons_zero] at h0
    have ih := putF_at (l := l) (f := f) (k := k) (by simpa using hk) (fun j h hj => by have := h1 (j + 1) (Nat.succ_lt_succ h) (Nat.succ_lt_succ hj); simpa using this) (fun h => by have := h2 (Nat.succ_lt_succ h); simpa using this)
    unfold putF at ih ⊢
    rw [List.takeWhile_cons, List.dropWhile_cons, h0, if_pos rfl, if_pos rfl, List.take_succ_cons, List.drop_succ_cons, List.cons_append, ih]
    rfl
set_option maxRecDepth 10000 in
set_option maxHeartbeats 8000000 in
theorem refPut_any (A : Option Addr) (cap : Nat) (l : List Fi) (f : Fi) (w : World) (hl : Rd w w.heap.size A (fis l)) (hcap : l.length ≤ cap) (hlen : l.length ≤ 1000) :
    Calls Try.prog 39 #[.slice A l.length cap, f.agg] w fun e w' => ∃ (A' : Option Addr) (c' : Nat), e = .returned (.slice A' (l.length + 1) c') ∧ OwnR w' w.heap.size A' (l.length + 1) c' (putF l f) ∧ Below w.heap.size w w' := by
  obtain ⟨i0, hi0, hz0, hz1, hz2⟩ := info_parts refFileInfo
  have HL := Lib.hid hl
  have hless := fun x W => less_any x f W
  have HLESS := Lib.hid hless
  have hX := FBox.new 76 w f
  have hB0 := below_al w (.cells #[.int .i64 f.level, .string f.name, .string f.low, .string f.high, .int .i64 f.many] 76)
  have HX := Lib.hid hX
  have HB0 := Lib.hid hB0
  clear hX hB0 hl hless
  unfold Fi.agg
  go_enter Try.func39, Try.ntmps39
  go_wp2
  go_loopw [5] (fun i wr => ∃ k : Nat, i = .int .i64 k ∧ k ≤ l.length ∧ Hid ((∀ j (h : j < l.length), j < k → lessF l[j] f = true) ∧ Below w.heap.size w wr ∧ FBox 76 wr w.heap.size f)) (fun i _ => l.length - (intOf i).toNat)
  case atStart => exact ⟨0, rfl, Nat.zero_le _, Lib.hid ⟨fun j _ h => by omega, HB0.out, HX.out⟩⟩
  case round =>
    obtain ⟨k, rfl, hk, HS⟩ := hrel
    rename World => wz
    have HLz := Lib.hid (HL.out.below HS.out.2.1)
    by_cases hlt : k < l.length
    · obtain ⟨b, o, hA, hrg⟩ := rd_elem HLz.out hlt
      have hbl : b < w.heap.size := by
        obtain ⟨b', o', e', hb', _⟩ := HLz.out.at_ (fis_ne hlt)
        rw [hA] at e'
        cases e'
        exact hb'
      subst hA
      have HC : wz.drew.rangeAt b (o + k * 5) l[k].vals ∧ wz.drew.rangeAt w.heap.size 0 f.vals := ⟨hrg, HS.out.2.2.range⟩
      have hd : decide ((k : Int) < (l.length : Int)) = true := decide_eq_true (by omega)
      have hd2 : decide (k < l.length) = true := decide_eq_true hlt
      have i1 : (0 : Int) ≤ (k : Int) := by omega
      have i2 : (k : Int) < (l.length : Int) := by omega
      clear hrg
      go_wp2
      refine region_wz (fun W' => W'.rangeAt b (o + k * 5) l[k].vals ∧ W'.rangeAt w.heap.size 0 f.vals) none (by kernel_rfl) ?_
      apply WZ.take (i := 0) (some 6) rfl rfl (by kernel_rfl) (by kernel_rfl) (by kernel_rfl) (calm_panic _) (by kernel_rfl)
      case hy => (refine .inl ⟨by kernel_rfl, fun W hC => ?_⟩; (try dsimp only at hC); go_simp; rfl)
      case hC => exact HC
      case ha => (simp only [Act.put, List.setIfInBounds_toArray, List.set_cons_zero, List.set_cons_succ]; rfl)
      apply WZ.take (i := 1) (some 7) rfl rfl (by kernel_rfl) (by kernel_rfl) (by kernel_rfl) (calm_panic _) (by kernel_rfl)
      case hy => (refine .inl ⟨by kernel_rfl, fun W hC => ?_⟩; (try dsimp only at hC); go_simp; rfl)
      case hC => exact HC
      case ha => (simp only [Act.put, List.setIfInBounds_toArray, List.set_cons_zero, List.set_cons_succ]; rfl)
      apply WZ.take (i := 2) (some 8) rfl rfl (by kernel_rfl) (by kernel_rfl) (by kernel_rfl) (calm_panic _) (by kernel_rfl)
      case hy => (refine .inl ⟨by kernel_rfl, fun W hC => ?_⟩; (try dsimp only at hC); go_simp; rfl)
      case hC => exact HC
      case ha => (simp only [Act.put, List.setIfInBounds_toArray, List.set_cons_zero, List.set_cons_succ]; rfl)
      apply WZ.take (i := 3) (some 9) rfl rfl (by kernel_rfl) (by kernel_rfl) (by kernel_rfl) (calm_panic _) (by kernel_rfl)
      case hy => (refine .inl ⟨by kernel_rfl, fun W hC => ?_⟩; (try dsimp only at hC); go_simp; rfl)
      case hC => exact HC
      case ha => (simp only [Act.put, List.setIfInBounds_toArray, List.set_cons_zero, List.set_cons_succ]; rfl)
      apply WZ.take (i := 4) (some 10) rfl rfl (by kernel_rfl) (by kernel_rfl) (by kernel_rfl) (calm_panic _) (by kernel_rfl)
      case hy => (refine .inl ⟨by kernel_rfl, fun W hC => ?_⟩; (try dsimp only at hC); go_simp; rfl)
      case hC => exact HC
      case ha => (simp only [Act.put, List.setIfInBounds_toArray, List.set_cons_zero, List.set_cons_succ]; rfl)
      apply WZ.take (i := 5) (some 11) rfl rfl (by kernel_rfl) (by kernel_rfl) (by kernel_rfl) (calm_panic _) (by kernel_rfl)
      case hy => (refine .inl ⟨by kernel_rfl, fun W hC => ?_⟩; (try dsimp only at hC); go_simp; rfl)
      case hC => exact HC
      case ha => (simp only [Act.put, List.setIfInBounds_toArray, List.set_cons_zero, List.set_cons_succ]; rfl)
      apply WZ.take (i := 6) (some 12) rfl rfl (by kernel_rfl) (by kernel_rfl) (by kernel_rfl) (calm_panic _) (by kernel_rfl)
      case hy => (refine .inl ⟨by kernel_rfl, fun W hC => ?_⟩; (try dsimp only at hC); go_simp; rfl)
      case hC => exact HC
      case ha => (simp only [Act.put, List.setIfInBounds_toArray, List.set_cons_zero, List.set_cons_succ]; rfl)
      apply WZ.take (i := 7) (some 13) rfl rfl (by kernel_rfl) (by kernel_rfl) (by kernel_rfl) (calm_panic _) (by kernel_rfl)
      case hy => (refine .inl ⟨by kernel_rfl, fun W hC => ?_⟩; (try dsimp only at hC); go_simp; rfl)
      case hC => exact HC
      case ha => (simp only [Act.put, List.setIfInBounds_toArray, List.set_cons_zero, List.set_cons_succ]; rfl)
      apply WZ.take (i := 8) (some 14) rfl rfl (by kernel_rfl) (by kernel_rfl) (by kernel_rfl) (calm_panic _) (by kernel_rfl)
      case hy => first | (apply yieldsIf_load_mid (by kernel_rfl) _ _ rfl _ _ rfl; (case hS => (intro W hC; exact (show World.rangeAt _ _ _ (Fi.vals _) from hC.1))); (case hu => exact Try.underlying76); (case hd => rfl); (case hi => kernel_rfl)) | (apply yieldsIf_load_mid (by kernel_rfl) _ _ rfl _ _ rfl; (case hS => (intro W hC; exact (show World.rangeAt _ _ _ (Fi.vals _) from hC.2.1))); (case hu => exact Try.underlying76); (case hd => rfl); (case hi => kernel_rfl)) | (apply yieldsIf_load_mid (by kernel_rfl) _ _ rfl _ _ rfl; (case hS => (intro W hC; exact (show World.rangeAt _ _ _ (Fi.vals _) from hC.2.2.1))); (case hu => exact Try.underlying76); (case hd => rfl); (case hi => kernel_rfl)) | (apply yieldsIf_load_mid (by kernel_rfl) _ _ rfl _ _ rfl; (case hS => (intro W hC; exact (show World.rangeAt _ _ _ (Fi.vals _) from hC.2.2.2.1))); (case hu => exact Try.underlying76); (case hd => rfl); (case hi => kernel_rfl)) | (apply yieldsIf_load_mid (by kernel_rfl) _ _ rfl _ _ rfl; (case hS => (intro W hC; exact (show World.rangeAt _ _ _ (Fi.vals _) from hC.2.2.2))); (case hu => exact Try.underlying76); (case hd => rfl); (case hi => kernel_rfl)) | (apply yieldsIf_load_mid (by kernel_rfl) _ _ rfl _ _ rfl; (case hS => (intro W hC; exact (show World.rangeAt _ _ _ (Fi.vals _) from hC.2.2))); (case hu => exact Try.underlying76); (case hd => rfl); (case hi => kernel_rfl)) | (apply yieldsIf_load_mid (by kernel_rfl) _ _ rfl _ _ rfl; (case hS => (intro W hC; exact (show World.rangeAt _ _ _ (Fi.vals _) from hC.2))); (case hu => exact Try.underlying76); (case hd => rfl); (case hi => kernel_rfl)) | (apply yieldsIf_load_mid (by kernel_rfl) _ _ rfl _ _ rfl; (case hS => (intro W hC; exact (show World.rangeAt _ _ _ (Fi.vals _) from hC))); (case hu => exact Try.underlying76); (case hd => rfl); (case hi => kernel_rfl))
      case hC => exact HC
      case ha => (simp only [Act.put, List.setIfInBounds_toArray, List.set_cons_zero, List.set_cons_succ]; rfl)
      apply WZ.take (i := 9) (some 15) rfl rfl (by kernel_rfl) (by kernel_rfl) (by kernel_rfl) (calm_panic _) (by kernel_rfl)
      case hy => first | (apply yieldsIf_load_mid (by kernel_rfl) _ _ rfl _ _ rfl; (case hS => (intro W hC; exact (show World.rangeAt _ _ _ (Fi.vals _) from hC.1))); (case hu => exact Try.underlying76); (case hd => rfl); (case hi => kernel_rfl)) | (apply yieldsIf_load_mid (by kernel_rfl) _ _ rfl _ _ rfl; (case hS => (intro W hC; exact (show World.rangeAt _ _ _ (Fi.vals _) from hC.2.1))); (case hu => exact Try.underlying76); (case hd => rfl); (case hi => kernel_rfl)) | (apply yieldsIf_load_mid (by kernel_rfl) _ _ rfl _ _ rfl; (case hS => (intro W hC; exact (show World.rangeAt _ _ _ (Fi.vals _) from hC.2.2.1))); (case hu => exact Try.underlying76); (case hd => rfl); (case hi => kernel_rfl)) | (apply yieldsIf_load_mid (by kernel_rfl) _ _ rfl _ _ rfl; (case hS => (intro W hC; exact (show World.rangeAt _ _ _ (Fi.vals _) from hC.2.2.2.1))); (case hu => exact Try.underlying76); (case hd => rfl); (case hi => kernel_rfl)) | (apply yieldsIf_load_mid (by kernel_rfl) _ _ rfl _ _ rfl; (case hS => (intro W hC; exact (show World.rangeAt _ _ _ (Fi.vals _) from hC.2.2.2))); (case hu => exact Try.underlying76); (case hd => rfl); (case hi => kernel_rfl)) | (apply yieldsIf_load_mid (by kernel_rfl) _ _ rfl _ _ rfl; (case hS => (intro W hC; exact (show World.rangeAt _ _ _ (Fi.vals _) from hC.2.2))); (case hu => exact Try.underlying76); (case hd => rfl); (case hi => kernel_rfl)) | (apply yieldsIf_load_mid (by kernel_rfl) _ _ rfl _ _ rfl; (case hS => (intro W hC; exact (show World.rangeAt _ _ _ (Fi.vals _) from hC.2))); (case hu => exact Try.underlying76); (case hd => rfl); (case hi => kernel_rfl)) | (apply yieldsIf_load_mid (by kernel_rfl) _ _ rfl _ _ rfl; (case hS => (intro W hC; exact (show World.rangeAt _ _ _ (Fi.vals _) from hC))); (case hu => exact Try.underlying76); (case hd => rfl); (case hi => kernel_rfl))
      case hC => exact HC
      case ha => (simp only [Act.put, List.setIfInBounds_toArray, List.set_cons_zero, List.set_cons_succ]; rfl)
      -- 10
      refine WZ.one (i := 10) rfl (by kernel_rfl) ?_
      conv => arg 4; arg 1; whnf
      go_wp2_with (go_at_call 64; refine (HLESS.out l[k] _).mono ?_; rintro e w4 ⟨rfl, hb4⟩)
      have HB4 := Lib.hid (HS.out.2.1.trans ((below_of_drew' hb4).mono HS.out.2.1.size))
      have HX4 := Lib.hid (HS.out.2.2.below (w := wz) (below_of_drew' hb4) HS.out.2.2.lt)
      have hrg' := rangeAt_below HC.1 (B := wz.heap.size) hb4 (Nat.lt_of_lt_of_le hbl HS.out.2.1.size)
      clear HC hb4
      have HC : w4.rangeAt b (o + k * 5) l[k].vals ∧ w4.rangeAt w.heap.size 0 f.vals := ⟨hrg', HX4.out.range⟩
      clear hrg'
      refine ⟨HC, ?_⟩
      apply WZ.take (i := 11) (some 17) rfl rfl (by kernel_rfl) (by kernel_rfl) (by kernel_rfl) (calm_panic _) (by kernel_rfl)
      case hy => (refine .inl ⟨by kernel_rfl, fun W hC => ?_⟩; (try dsimp only at hC); go_simp; rfl)
      case hC => exact HC
      case ha => (simp only [Act.put, List.setIfInBounds_toArray, List.set_cons_zero, List.set_cons_succ]; rfl)
      refine WZ.done (by kernel_rfl) ?_ _
      simp only [Calm, Exit.then]
      cases hle : lessF l[k] f with
      | true =>
        have HN := Lib.hid (show ∀ j (h : j < l.length), j < k + 1 → lessF l[j] f = true from fun j h hj => by
          by_cases e : j = k
          · subst e; exact hle
          · exact HS.out.1 j h (by omega))
        have hw1 : IntKind.i64.wrap ((k : Int) + 1) = ((k + 1 : Nat) : Int) := by rw [IntWalk.i64_in _ (by omega)]; omega
        clear HC
        go_wp2
        exact ⟨⟨k + 1, by first | rfl | go_num, by omega, Lib.hid ⟨HN.out, HB4.out, HX4.out⟩⟩, by simp [intOf]; omega⟩
      | false =>
        have HPUT := Lib.hid (putF_at hk HS.out.1 (fun _ => hle))
        obtain ⟨w3, hw3⟩ : ∃ w3, w3 = w4 := ⟨_, rfl⟩
        subst hw3
        have HX3 := HX4
        have HB3 := HB4
        have HL3 := Lib.hid ((HL.out.below HB3.out).more HB3.out.size)
        clear HC HX4 HB4 HS HLz
        go_wp2
        have hsl1 := fun W => run_front (P := Try.prog) (t := 38) (e := 76) (size := 5) Try.underlying38 hi0 hz1 (some ⟨b, o, none⟩) l.length cap k (by omega) W
        have hsl2 := fun W => run_tail (P := Try.prog) (t := 38) (e := 76) (size := 5) Try.underlying38 hi0 hz1 (some ⟨b, o, none⟩) l.length cap k (by omega) W
        obtain ⟨At, hAt⟩ : ∃ At, tailA (some ⟨b, o, none⟩) cap k 5 = At := ⟨_, rfl⟩
        obtain ⟨S0, hS0⟩ : ∃ S0, w3.heap.size = S0 := ⟨_, rfl⟩
        obtain ⟨CC, hCD⟩ : ∃ CC : World → Prop, ∀ W, CC W ↔ (FBox 76 W w.heap.size f ∧ Rd W S0 (some ⟨b, o, none⟩) (fis l) ∧ S0 ≤ W.heap.size ∧ Below w.heap.size w W) := ⟨fun W => FBox 76 W w.heap.size f ∧ Rd W S0 (some ⟨b, o, none⟩) (fis l) ∧ S0 ≤ W.heap.size ∧ Below w.heap.size w W, fun _ => Iff.rfl⟩
        have hwS : w.heap.size < S0 := by rw [← hS0]; exact HX3.out.lt
        have hCC8 : ∀ W W', Below S0 W W' → CC W → CC W' := by
          intro W W' hb hc
          obtain ⟨h1, h2, h3, h4⟩ := (hCD _).1 hc
          exact (hCD _).2 ⟨h1.below hb hwS, h2.below hb, Nat.le_trans h3 hb.size, h4.trans (hb.mono (Nat.le_of_lt hwS))⟩
        have hsz : ∀ W, CC W → S0 ≤ W.heap.size := fun W h => ((hCD _).1 h).2.2.1
        have hmk : ∀ W, CC W → W.rangeAt w.heap.size 0 [.int .i64 f.level, .string f.name, .string f.low, .string f.high, .int .i64 f.many] ∧ CC W := fun W h => ⟨((hCD _).1 h).1.range, h⟩
        have hal : ∀ (W : World) (ob : Obj), CC W → CC (W.alloc ob) := fun W ob h => hCC8 _ _ ((Below.refl S0 W).alloc (hsz _ h) ob) h
        have hnew0 : ∀ W, CC W → Own (W.alloc (.cells #[] 76)) S0 76 5 (some ⟨W.heap.size, 0, none⟩) 0 0 [] := fun W h => (Own.new0' W 76 5).lower (hsz _ h)
        have hnew1 : ∀ W g, CC W → W.heap.size = g → Rd (W.alloc (.cells #[.int .i64 f.level, .string f.name, .string f.low, .string f.high, .int .i64 f.many] 76)) (W.alloc (.cells #[.int .i64 f.level, .string f.name, .string f.low, .string f.high, .int .i64 f.many] 76)).heap.size (some ⟨g, 0, none⟩) f.vals := fun W g h hg => by
          rw [← hg]
          exact (Rd.all' W 76 f.vals _ W.heap.size rfl rfl).more (Nat.le_of_eq (World.size_alloc _ _).symm)
        have hsrc1 : ∀ W, CC W → Rd W W.heap.size (some ⟨b, o, none⟩) (fis (l.take k)) := fun W h => (((hCD _).1 h).2.1.more (hsz _ h)).frontR Fi.vals_len (by omega)
        have hsrc2 : ∀ W, CC W → Rd W W.heap.size At (fis (l.drop k)) := fun W h => by
          rw [← hAt]
          exact (((hCD _).1 h).2.1.more (hsz _ h)).tailR Fi.vals_len rfl hcap (by omega)
        have hbw : ∀ W, CC W → Below w.heap.size w W := fun W h => ((hCD _).1 h).2.2.2
        have hl1 : (fis (l.take k)).length = k * 5 := by rw [fis_len, List.length_take]; omega
        have hl2 : (fis (l.drop k)).length = (l.length - k) * 5 := by rw [fis_len, List.length_drop]
        have HC := hmk _ ((hCD _).2 ⟨HX3.out.keep (w' := w3.drew) rfl, (hS0 ▸ HL3.out : Rd w3.drew S0 (some ⟨b, o, none⟩) (fis l)), Nat.le_of_eq hS0.symm, HB3.out.drew⟩)
        rw [hAt] at hsl2
        clear hAt hCD hS0
        refine region_wz (fun W' => W'.rangeAt w.heap.size 0 [.int .i64 f.level, .string f.name, .string f.low, .string f.high, .int .i64 f.many] ∧ CC W') none (by kernel_rfl) ?_
        apply WZ.take (i := 1) (some 21) rfl rfl (by kernel_rfl) (by kernel_rfl) (by kernel_rfl) (calm_panic _) (by kernel_rfl)
        case hy => (refine .inl ⟨by kernel_rfl, fun W hC => ?_⟩; (try dsimp only at hC); go_simp; (try simp only [hsl1,hsl2]); rfl)
        case hC => exact HC
        case ha => (simp only [Act.put, List.setIfInBounds_toArray, List.set_cons_zero, List.set_cons_succ]; rfl)
        apply WZ.take (i := 2) (some 22) rfl rfl (by kernel_rfl) (by kernel_rfl) (by kernel_rfl) (calm_panic _) (by kernel_rfl)
        case hy => (refine .inl ⟨by kernel_rfl, fun W hC => ?_⟩; (try dsimp only at hC); go_simp; (try simp only [hsl1,hsl2]); rfl)
        case hC => exact HC
        case ha => (simp only [Act.put, List.setIfInBounds_toArray, List.set_cons_zero, List.set_cons_succ]; rfl)
        apply WZ.take (i := 3) (some 23) rfl rfl (by kernel_rfl) (by kernel_rfl) (by kernel_rfl) (calm_panic _) (by kernel_rfl)
        case hy => (refine .inl ⟨by kernel_rfl, fun W hC => ?_⟩; (try dsimp only at hC); go_simp; (try simp only [hsl1,hsl2]); rfl)
        case hC => exact HC
        case ha => (simp only [Act.put, List.setIfInBounds_toArray, List.set_cons_zero, List.set_cons_succ]; rfl)
        apply WZ.take (i := 5) (some 25) rfl rfl (by kernel_rfl) (by kernel_rfl) (by kernel_rfl) (calm_panic _) (by kernel_rfl)
        case hy => first | (apply yieldsIf_load_mid (by kernel_rfl) _ _ rfl _ _ rfl; (case hS => (intro W hC; exact hC.1)); (case hu => exact Try.underlying76); (case hd => rfl); (case hi => kernel_rfl)) | (apply yieldsIf_load_mid (by kernel_rfl) _ _ rfl _ _ rfl; (case hS => (intro W hC; exact hC.2.1)); (case hu => exact Try.underlying76); (case hd => rfl); (case hi => kernel_rfl)) | (apply yieldsIf_load_mid (by kernel_rfl) _ _ rfl _ _ rfl; (case hS => (intro W hC; exact hC.2.2.1)); (case hu => exact Try.underlying76); (case hd => rfl); (case hi => kernel_rfl)) | (apply yieldsIf_load_mid (by kernel_rfl) _ _ rfl _ _ rfl; (case hS => (intro W hC; exact hC.2.2.2.1)); (case hu => exact Try.underlying76); (case hd => rfl); (case hi => kernel_rfl)) | (apply yieldsIf_load_mid (by kernel_rfl) _ _ rfl _ _ rfl; (case hS => (intro W hC; exact hC.2.2.2)); (case hu => exact Try.underlying76); (case hd => rfl); (case hi => kernel_rfl)) | (apply yieldsIf_load_mid (by kernel_rfl) _ _ rfl _ _ rfl; (case hS => (intro W hC; exact hC.2.2)); (case hu => exact Try.underlying76); (case hd => rfl); (case hi => kernel_rfl)) | (apply yieldsIf_load_mid (by kernel_rfl) _ _ rfl _ _ rfl; (case hS => (intro W hC; exact hC.2)); (case hu => exact Try.underlying76); (case hd => rfl); (case hi => kernel_rfl)) | (apply yieldsIf_load_mid (by kernel_rfl) _ _ rfl _ _ rfl; (case hS => (intro W hC; exact hC)); (case hu => exact Try.underlying76); (case hd => rfl); (case hi => kernel_rfl))
        case hC => exact HC
        case ha => (simp only [Act.put, List.setIfInBounds_toArray, List.set_cons_zero, List.set_cons_succ]; rfl)
        apply WZ.take (i := 8) (some 28) rfl rfl (by kernel_rfl) (by kernel_rfl) (by kernel_rfl) (calm_panic _) (by kernel_rfl)
        case hy => (refine .inl ⟨by kernel_rfl, fun W hC => ?_⟩; (try dsimp only at hC); go_simp; (try simp only [hsl1,hsl2]); rfl)
        case hC => exact HC
        case ha => (simp only [Act.put, List.setIfInBounds_toArray, List.set_cons_zero, List.set_cons_succ]; rfl)
        apply WZ.take (i := 9) (some 29) rfl rfl (by kernel_rfl) (by kernel_rfl) (by kernel_rfl) (calm_panic _) (by kernel_rfl)
        case hy => (refine .inl ⟨by kernel_rfl, fun W hC => ?_⟩; (try dsimp only at hC); go_simp; (try simp only [hsl1,hsl2]); rfl)
        case hC => exact HC
        case ha => (simp only [Act.put, List.setIfInBounds_toArray, List.set_cons_zero, List.set_cons_succ]; rfl)
        apply WZ.take (i := 10) (some 30) rfl rfl (by kernel_rfl) (by kernel_rfl) (by kernel_rfl) (calm_panic _) (by kernel_rfl)
        case hy => (refine .inl ⟨by kernel_rfl, fun W hC => ?_⟩; (try dsimp only at hC); go_simp; (try simp only [hsl1,hsl2]); rfl)
        case hC => exact HC
        case ha => (simp only [Act.put, List.setIfInBounds_toArray, List.set_cons_zero, List.set_cons_succ]; rfl)
        refine WZ.two (i := 0) (j := 6) rfl rfl (by kernel_rfl) ?_ ?_
        · conv => arg 4; arg 1; whnf
          go_wp2_with fail
          have hA0 := hnew0 _ HC.2
          try rw [World.size_alloc] at hA0
          have hA := own_any hA0
          clear hA0
          have HC2 := hmk _ (hal _ (.cells #[] 76) HC.2)
          try (have hR2 := hR.allocS (.cells #[] 76); clear hR; have hR := hR2; clear hR2)
          clear HC
          have HC := HC2
          clear HC2
          refine ⟨HC, ?_⟩
          refine WZ.two (i := 4) (j := 6) rfl rfl (by kernel_rfl) ?_ ?_
          · conv => arg 4; arg 1; whnf
            have hP := hsrc1 _ HC.2
            go_wp2_with (at_builtin; go_loud (refine wpList_app _ rfl _ _ _ rfl S0 76 i0 zeroFile 5 64 Try.underlying38 hi0 hz0 hz1 hz2 rfl (by decide) _ _ _ _ rfl (hA _ (by omega)) _ _ _ _ (fis (l.take k)) rfl hP hl1 (fis_one _) (by unfold maxLen; omega) (by omega) (hsz _ HC.2) ?_); intro A4 c4 w4 ho4 hg4 hat4)
            have HC2 := hmk _ (hCC8 _ _ (Own.grow (hA _ rfl) (Below.refl S0 _) (hsz _ HC.2) (Nat.le_refl _) hg4) HC.2)
            try (have hR2 := Rd.grownAt hR hg4 (by first | (simp [blk]; done) | (simp [blk]; omega)); clear hR; have hR := hR2; clear hR2)
            clear HC hA hP
            have HC := HC2
            have hA := own_any ho4
            clear HC2 ho4 hg4 hat4
            refine ⟨HC, ?_⟩
            -- 6
            refine WZ.one (i := 6) rfl (by kernel_rfl) ?_
            conv => arg 4; arg 1; whnf
            go_wp2_with fail
            first
              | have hR := hnew1 _ _ HC.2 (World.size_alloc _ _)
              | have hR := hnew1 _ _ HC.2 rfl
            have HC2 := hmk _ (hal _ (.cells #[.int .i64 f.level, .string f.name, .string f.low, .string f.high, .int .i64 f.many] 76) HC.2)
            try (have hA2 := own_any (Own.alloc (hA _ rfl) (.cells #[.int .i64 f.level, .string f.name, .string f.low, .string f.high, .int .i64 f.many] 76)); clear hA; have hA := hA2; clear hA2)
            clear HC
            have HC := HC2
            clear HC2
            refine ⟨HC, ?_⟩
            -- 7
            refine WZ.one (i := 7) rfl (by kernel_rfl) ?_
            conv => arg 4; arg 1; whnf
            go_wp2_with (at_builtin; go_loud (refine wpList_app _ rfl _ _ _ rfl S0 76 i0 zeroFile 5 64 Try.underlying38 hi0 hz0 hz1 hz2 rfl (by decide) _ _ _ _ rfl (hA _ (by omega)) _ _ _ _ f.vals rfl hR rfl (Fi.one f) (by unfold maxLen; omega) (by omega) (hsz _ HC.2) ?_); intro A4 c4 w4 ho4 hg4 hat4)
            have HC2 := hmk _ (hCC8 _ _ (Own.grow (hA _ rfl) (Below.refl S0 _) (hsz _ HC.2) (Nat.le_refl _) hg4) HC.2)
            clear HC hA hR
            have HC := HC2
            have hA := own_any ho4
            clear HC2 ho4 hg4 hat4
            refine ⟨HC, ?_⟩
            -- 11
            refine WZ.one (i := 11) rfl (by kernel_rfl) ?_
            conv => arg 4; arg 1; whnf
            have hP := hsrc2 _ HC.2
            go_wp2_with (at_builtin; go_loud (refine wpList_app _ rfl _ _ _ rfl S0 76 i0 zeroFile 5 64 Try.underlying38 hi0 hz0 hz1 hz2 rfl (by decide) _ _ _ _ rfl (hA _ (by omega)) _ _ _ _ (fis (l.drop k)) rfl hP hl2 (fis_one _) (by unfold maxLen; omega) (by omega) (hsz _ HC.2) ?_); intro A4 c4 w4 ho4 hg4 hat4)
            have HC2 := hmk _ (hCC8 _ _ (Own.grow (hA _ rfl) (Below.refl S0 _) (hsz _ HC.2) (Nat.le_refl _) hg4) HC.2)
            clear HC hA hP
            have HC := HC2
            have hA := own_any ho4
            clear HC2 ho4 hg4 hat4
            refine ⟨HC, ?_⟩
            apply WZ.take (i := 12) (some 4) rfl rfl (by kernel_rfl) (by kernel_rfl) (by kernel_rfl) (calm_panic _) (by kernel_rfl)
            case hy => (refine .inl ⟨by kernel_rfl, fun W hC => ?_⟩; (try dsimp only at hC); go_simp; (try simp only [hsl1,hsl2]); rfl)
            case hC => exact HC
            case ha => (simp only [Act.put, List.setIfInBounds_toArray, List.set_cons_zero, List.set_cons_succ]; rfl)
            refine WZ.done (by kernel_rfl) ?_ _
            simp only [Calm, Exit.then]
            have HR8 := Lib.hid (hA _ rfl)
            have HBW := Lib.hid (hbw _ HC.2)
            have hz8 := hsz _ HC.2
            clear HC hA
            have hln : k + 1 + (l.length - k) = l.length + 1 := by omega
            have hvs : fis (l.take k ++ f :: l.drop k) = [] ++ fis (l.take k) ++ f.vals ++ fis (l.drop k) := by simp [fis]
            have HLN := Lib.hid hln
            have HVS := Lib.hid hvs
            clear hln hvs
            go_wp2
            go_ret
            rw [HPUT.out]
            refine ⟨_, _, by first | (rw [← HLN.out]; rfl) | (rw [← HLN.out]), ?_, HBW.out⟩
            unfold OwnR
            rw [HVS.out]
            exact own_any (Own.lower HR8.out (by omega)) _ (by omega)
          · conv => arg 4; arg 1; whnf
            go_wp2_with fail
            first
              | have hR := hnew1 _ _ HC.2 (World.size_alloc _ _)
              | have hR := hnew1 _ _ HC.2 rfl
            have HC2 := hmk _ (hal _ (.cells #[.int .i64 f.level, .string f.name, .string f.low, .string f.high, .int .i64 f.many] 76) HC.2)
            try (have hA2 := own_any (Own.alloc (hA _ rfl) (.cells #[.int .i64 f.level, .string f.name, .string f.low, .string f.high, .int .i64 f.many] 76)); clear hA; have hA := hA2; clear hA2)
            clear HC
            have HC := HC2
            clear HC2
            refine ⟨HC, ?_⟩
            -- 4
            refine WZ.one (i := 4) rfl (by kernel_rfl) ?_
            conv => arg 4; arg 1; whnf
            have hP := hsrc1 _ HC.2
            go_wp2_with (at_builtin; go_loud (refine wpList_app _ rfl _ _ _ rfl S0 76 i0 zeroFile 5 64 Try.underlying38 hi0 hz0 hz1 hz2 rfl (by decide) _ _ _ _ rfl (hA _ (by omega)) _ _ _ _ (fis (l.take k)) rfl hP hl1 (fis_one _) (by unfold maxLen; omega) (by omega) (hsz _ HC.2) ?_); intro A4 c4 w4 ho4 hg4 hat4)
            have HC2 := hmk _ (hCC8 _ _ (Own.grow (hA _ rfl) (Below.refl S0 _) (hsz _ HC.2) (Nat.le_refl _) hg4) HC.2)
            try (have hR2 := Rd.grownAt hR hg4 (by first | (simp [blk]; done) | (simp [blk]; omega)); clear hR; have hR := hR2; clear hR2)
            clear HC hA hP
            have HC := HC2
            have hA := own_any ho4
            clear HC2 ho4 hg4 hat4
            refine ⟨HC, ?_⟩
            -- 7
            refine WZ.one (i := 7) rfl (by kernel_rfl) ?_
            conv => arg 4; arg 1; whnf
            go_wp2_with (at_builtin; go_loud (refine wpList_app _ rfl _ _ _ rfl S0 76 i0 zeroFile 5 64 Try.underlying38 hi0 hz0 hz1 hz2 rfl (by decide) _ _ _ _ rfl (hA _ (by omega)) _ _ _ _ f.vals rfl hR rfl (Fi.one f) (by unfold maxLen; omega) (by omega) (hsz _ HC.2) ?_); intro A4 c4 w4 ho4 hg4 hat4)
            have HC2 := hmk _ (hCC8 _ _ (Own.grow (hA _ rfl) (Below.refl S0 _) (hsz _ HC.2) (Nat.le_refl _) hg4) HC.2)
            clear HC hA hR
            have HC := HC2
            have hA := own_any ho4
            clear HC2 ho4 hg4 hat4
            refine ⟨HC, ?_⟩
            -- 11
            refine WZ.one (i := 11) rfl (by kernel_rfl) ?_
            conv => arg 4; arg 1; whnf
            have hP := hsrc2 _ HC.2
            go_wp2_with (at_builtin; go_loud (refine wpList_app _ rfl _ _ _ rfl S0 76 i0 zeroFile 5 64 Try.underlying38 hi0 hz0 hz1 hz2 rfl (by decide) _ _ _ _ rfl (hA _ (by omega)) _ _ _ _ (fis (l.drop k)) rfl hP hl2 (fis_one _) (by unfold maxLen; omega) (by omega) (hsz _ HC.2) ?_); intro A4 c4 w4 ho4 hg4 hat4)
            have HC2 := hmk _ (hCC8 _ _ (Own.grow (hA _ rfl) (Below.refl S0 _) (hsz _ HC.2) (Nat.le_refl _) hg4) HC.2)
            clear HC hA hP
            have HC := HC2
            have hA := own_any ho4
            clear HC2 ho4 hg4 hat4
            refine ⟨HC, ?_⟩
            apply WZ.take (i := 12) (some 4) rfl rfl (by kernel_rfl) (by kernel_rfl) (by kernel_rfl) (calm_panic _) (by kernel_rfl)
            case hy => (refine .inl ⟨by kernel_rfl, fun W hC => ?_⟩; (try dsimp only at hC); go_simp; (try simp only [hsl1,hsl2]); rfl)
            case hC => exact HC
            case ha => (simp only [Act.put, List.setIfInBounds_toArray, List.set_cons_zero, List.set_cons_succ]; rfl)
            refine WZ.done (by kernel_rfl) ?_ _
            simp only [Calm, Exit.then]
            have HR8 := Lib.hid (hA _ rfl)
            have HBW := Lib.hid (hbw _ HC.2)
            have hz8 := hsz _ HC.2
            clear HC hA
            have hln : k + 1 + (l.length - k) = l.length + 1 := by omega
            have hvs : fis (l.take k ++ f :: l.drop k) = [] ++ fis (l.take k) ++ f.vals ++ fis (l.drop k) := by simp [fis]
            have HLN := Lib.hid hln
            have HVS := Lib.hid hvs
            clear hln hvs
            go_wp2
            go_ret
            rw [HPUT.out]
            refine ⟨_, _, by first | (rw [← HLN.out]; rfl) | (rw [← HLN.out]), ?_, HBW.out⟩
            unfold OwnR
            rw [HVS.out]
            exact own_any (Own.lower HR8.out (by omega)) _ (by omega)
        · conv => arg 4; arg 1; whnf
          go_wp2_with fail
          first
            | have hR := hnew1 _ _ HC.2 (World.size_alloc _ _)
            | have hR := hnew1 _ _ HC.2 rfl
          have HC2 := hmk _ (hal _ (.cells #[.int .i64 f.level, .string f.name, .string f.low, .string f.high, .int .i64 f.many] 76) HC.2)
          try (have hA2 := own_any (Own.alloc (hA _ rfl) (.cells #[.int .i64 f.level, .string f.name, .string f.low, .string f.high, .int .i64 f.many] 76)); clear hA; have hA := hA2; clear hA2)
          clear HC
          have HC := HC2
          clear HC2
          refine ⟨HC, ?_⟩
          -- 0
          refine WZ.one (i := 0) rfl (by kernel_rfl) ?_
          conv => arg 4; arg 1; whnf
          go_wp2_with fail
          have hA0 := hnew0 _ HC.2
          try rw [World.size_alloc] at hA0
          have hA := own_any hA0
          clear hA0
          have HC2 := hmk _ (hal _ (.cells #[] 76) HC.2)
          try (have hR2 := hR.allocS (.cells #[] 76); clear hR; have hR := hR2; clear hR2)
          clear HC
          have HC := HC2
          clear HC2
          refine ⟨HC, ?_⟩
          -- 4
          refine WZ.one (i := 4) rfl (by kernel_rfl) ?_
          conv => arg 4; arg 1; whnf
          have hP := hsrc1 _ HC.2
          go_wp2_with (at_builtin; go_loud (refine wpList_app _ rfl _ _ _ rfl S0 76 i0 zeroFile 5 64 Try.underlying38 hi0 hz0 hz1 hz2 rfl (by decide) _ _ _ _ rfl (hA _ (by omega)) _ _ _ _ (fis (l.take k)) rfl hP hl1 (fis_one _) (by unfold maxLen; omega) (by omega) (hsz _ HC.2) ?_); intro A4 c4 w4 ho4 hg4 hat4)
          have HC2 := hmk _ (hCC8 _ _ (Own.grow (hA _ rfl) (Below.refl S0 _) (hsz _ HC.2) (Nat.le_refl _) hg4) HC.2)
          try (have hR2 := Rd.grownAt hR hg4 (by first | (simp [blk]; done) | (simp [blk]; omega)); clear hR; have hR := hR2; clear hR2)
          clear HC hA hP
          have HC := HC2
          have hA := own_any ho4
          clear HC2 ho4 hg4 hat4
          refine ⟨HC, ?_⟩
          -- 7
          refine WZ.one (i := 7) rfl (by kernel_rfl) ?_
          conv => arg 4; arg 1; whnf
          go_wp2_with (at_builtin; go_loud (refine wpList_app _ rfl _ _ _ rfl S0 76 i0 zeroFile 5 64 Try.underlying38 hi0 hz0 hz1 hz2 rfl (by decide) _ _ _ _ rfl (hA _ (by omega)) _ _ _ _ f.vals rfl hR rfl (Fi.one f) (by unfold maxLen; omega) (by omega) (hsz _ HC.2) ?_); intro A4 c4 w4 ho4 hg4 hat4)
          have HC2 := hmk _ (hCC8 _ _ (Own.grow (hA _ rfl) (Below.refl S0 _) (hsz _ HC.2) (Nat.le_refl _) hg4) HC.2)
          clear HC hA hR
          have HC := HC2
          have hA := own_any ho4
          clear HC2 ho4 hg4 hat4
          refine ⟨HC, ?_⟩
          -- 11
          refine WZ.one (i := 11) rfl (by kernel_rfl) ?_
          conv => arg 4; arg 1; whnf
          have hP := hsrc2 _ HC.2
          go_wp2_with (at_builtin; go_loud (refine wpList_app _ rfl _ _ _ rfl S0 76 i0 zeroFile 5 64 Try.underlying38 hi0 hz0 hz1 hz2 rfl (by decide) _ _ _ _ rfl (hA _ (by omega)) _ _ _ _ (fis (l.drop k)) rfl hP hl2 (fis_one _) (by unfold maxLen; omega) (by omega) (hsz _ HC.2) ?_); intro A4 c4 w4 ho4 hg4 hat4)
          have HC2 := hmk _ (hCC8 _ _ (Own.grow (hA _ rfl) (Below.refl S0 _) (hsz _ HC.2) (Nat.le_refl _) hg4) HC.2)
          clear HC hA hP
          have HC := HC2
          have hA := own_any ho4
          clear HC2 ho4 hg4 hat4
          refine ⟨HC, ?_⟩
          apply WZ.take (i := 12) (some 4) rfl rfl (by kernel_rfl) (by kernel_rfl) (by kernel_rfl) (calm_panic _) (by kernel_rfl)
          case hy => (refine .inl ⟨by kernel_rfl, fun W hC => ?_⟩; (try dsimp only at hC); go_simp; (try simp only [hsl1,hsl2]); rfl)
          case hC => exact HC
          case ha => (simp only [Act.put, List.setIfInBounds_toArray, List.set_cons_zero, List.set_cons_succ]; rfl)
          refine WZ.done (by kernel_rfl) ?_ _
          simp only [Calm, Exit.then]
          have HR8 := Lib.hid (hA _ rfl)
          have HBW := Lib.hid (hbw _ HC.2)
          have hz8 := hsz _ HC.2
          clear HC hA
          have hln : k + 1 + (l.length - k) = l.length + 1 := by omega
          have hvs : fis (l.take k ++ f :: l.drop k) = [] ++ fis (l.take k) ++ f.vals ++ fis (l.drop k) := by simp [fis]
          have HLN := Lib.hid hln
          have HVS := Lib.hid hvs
          clear hln hvs
          go_wp2
          go_ret
          rw [HPUT.out]
          refine ⟨_, _, by first | (rw [← HLN.out]; rfl) | (rw [← HLN.out]), ?_, HBW.out⟩
          unfold OwnR
          rw [HVS.out]
          exact own_any (Own.lower HR8.out (by omega)) _ (by omega)
    · have hd : decide ((k : Int) < (l.length : Int)) = false := decide_eq_false (by omega)
      have hd2 : decide (k < l.length) = false := decide_eq_false hlt
      have HPUT := Lib.hid (putF_at hk HS.out.1 (fun h => absurd h hlt))
      have HX3 := Lib.hid (show FBox 76 wz.drew w.heap.size f from HS.out.2.2)
      have HB3 := Lib.hid HS.out.2.1.drew
      have HL3 := Lib.hid (show Rd wz.drew wz.drew.heap.size A (fis l) from (HLz.out.more HS.out.2.1.size))
      have HC : wz.drew.rangeAt w.heap.size 0 f.vals := HX3.out.range
      clear HS HLz
      go_wp2
      refine region_wz (fun W' => W'.rangeAt w.heap.size 0 f.vals) none (by kernel_rfl) ?_
      apply WZ.take (i := 0) (some 6) rfl rfl (by kernel_rfl) (by kernel_rfl) (by kernel_rfl) (calm_panic _) (by kernel_rfl)
      case hy => (refine .inl ⟨by kernel_rfl, fun W hC => ?_⟩; (try dsimp only at hC); go_simp; rfl)
      case hC => exact HC
      case ha => (simp only [Act.put, List.setIfInBounds_toArray, List.set_cons_zero, List.set_cons_succ]; rfl)
      apply WZ.take (i := 1) (some 7) rfl rfl (by kernel_rfl) (by kernel_rfl) (by kernel_rfl) (calm_panic _) (by kernel_rfl)
      case hy => (refine .inl ⟨by kernel_rfl, fun W hC => ?_⟩; (try dsimp only at hC); go_simp; rfl)
      case hC => exact HC
      case ha => (simp only [Act.put, List.setIfInBounds_toArray, List.set_cons_zero, List.set_cons_succ]; rfl)
      apply WZ.take (i := 2) (some 8) rfl rfl (by kernel_rfl) (by kernel_rfl) (by kernel_rfl) (calm_panic _) (by kernel_rfl)
      case hy => (refine .inl ⟨by kernel_rfl, fun W hC => ?_⟩; (try dsimp only at hC); go_simp; rfl)
      case hC => exact HC
      case ha => (simp only [Act.put, List.setIfInBounds_toArray, List.set_cons_zero, List.set_cons_succ]; rfl)
      apply WZ.take (i := 3) (some 9) rfl rfl (by kernel_rfl) (by kernel_rfl) (by kernel_rfl) (calm_panic _) (by kernel_rfl)
      case hy => (refine .inl ⟨by kernel_rfl, fun W hC => ?_⟩; (try dsimp only at hC); go_simp; rfl)
      case hC => exact HC
      case ha => (simp only [Act.put, List.setIfInBounds_toArray, List.set_cons_zero, List.set_cons_succ]; rfl)
      apply WZ.take (i := 4) (some 10) rfl rfl (by kernel_rfl) (by kernel_rfl) (by kernel_rfl) (calm_panic _) (by kernel_rfl)
      case hy => (refine .inl ⟨by kernel_rfl, fun W hC => ?_⟩; (try dsimp only at hC); go_simp; rfl)
      case hC => exact HC
      case ha => (simp only [Act.put, List.setIfInBounds_toArray, List.set_cons_zero, List.set_cons_succ]; rfl)
      apply WZ.take (i := 5) (some 11) rfl rfl (by kernel_rfl) (by kernel_rfl) (by kernel_rfl) (calm_panic _) (by kernel_rfl)
      case hy => exact .inr ⟨by kernel_rfl, rfl⟩
      case hC => exact HC
      case ha => (simp only [Act.put, List.setIfInBounds_toArray, List.set_cons_zero, List.set_cons_succ]; rfl)
      apply WZ.take (i := 6) (some 12) rfl rfl (by kernel_rfl) (by kernel_rfl) (by kernel_rfl) (calm_panic _) (by kernel_rfl)
      case hy => exact .inr ⟨by kernel_rfl, rfl⟩
      case hC => exact HC
      case ha => (simp only [Act.put, List.setIfInBounds_toArray, List.set_cons_zero, List.set_cons_succ]; rfl)
      apply WZ.take (i := 7) (some 13) rfl rfl (by kernel_rfl) (by kernel_rfl) (by kernel_rfl) (calm_panic _) (by kernel_rfl)
      case hy => exact .inr ⟨by kernel_rfl, rfl⟩
      case hC => exact HC
      case ha => (simp only [Act.put, List.setIfInBounds_toArray, List.set_cons_zero, List.set_cons_succ]; rfl)
      apply WZ.take (i := 8) (some 14) rfl rfl (by kernel_rfl) (by kernel_rfl) (by kernel_rfl) (calm_panic _) (by kernel_rfl)
      case hy => exact .inr ⟨by kernel_rfl, rfl⟩
      case hC => exact HC
      case ha => (simp only [Act.put, List.setIfInBounds_toArray, List.set_cons_zero, List.set_cons_succ]; rfl)
      apply WZ.take (i := 9) (some 15) rfl rfl (by kernel_rfl) (by kernel_rfl) (by kernel_rfl) (calm_panic _) (by kernel_rfl)
      case hy => exact .inr ⟨by kernel_rfl, rfl⟩
      case hC => exact HC
      case ha => (simp only [Act.put, List.setIfInBounds_toArray, List.set_cons_zero, List.set_cons_succ]; rfl)
      apply WZ.take (i := 10) (some 16) rfl rfl (by kernel_rfl) (by kernel_rfl) (by kernel_rfl) (calm_panic _) (by kernel_rfl)
      case hy => exact .inr ⟨by kernel_rfl, rfl⟩
      case hC => exact HC
      case ha => (simp only [Act.put, List.setIfInBounds_toArray, List.set_cons_zero, List.set_cons_succ]; rfl)
      apply WZ.take (i := 11) (some 17) rfl rfl (by kernel_rfl) (by kernel_rfl) (by kernel_rfl) (calm_panic _) (by kernel_rfl)
      case hy => (refine .inl ⟨by kernel_rfl, fun W hC => ?_⟩; (try dsimp only at hC); go_simp; rfl)
      case hC => exact HC
      case ha => (simp only [Act.put, List.setIfInBounds_toArray, List.set_cons_zero, List.set_cons_succ]; rfl)
      refine WZ.done (by kernel_rfl) ?_ _
      simp only [Calm, Exit.then]
      clear HC
      go_wp2
      generalize wz.drew = w3 at HX3 HB3 HL3 ⊢
      have hsl1 := fun W => run_front (P := Try.prog) (t := 38) (e := 76) (size := 5) Try.underlying38 hi0 hz1 A l.length cap k (by omega) W
      have hsl2 := fun W => run_tail (P := Try.prog) (t := 38) (e := 76) (size := 5) Try.underlying38 hi0 hz1 A l.length cap k (by omega) W
      obtain ⟨At, hAt⟩ : ∃ At, tailA A cap k 5 = At := ⟨_, rfl⟩
      obtain ⟨S0, hS0⟩ : ∃ S0, w3.heap.size = S0 := ⟨_, rfl⟩
      obtain ⟨CC, hCD⟩ : ∃ CC : World → Prop, ∀ W, CC W ↔ (FBox 76 W w.heap.size f ∧ Rd W S0 A (fis l) ∧ S0 ≤ W.heap.size ∧ Below w.heap.size w W) := ⟨fun W => FBox 76 W w.heap.size f ∧ Rd W S0 A (fis l) ∧ S0 ≤ W.heap.size ∧ Below w.heap.size w W, fun _ => Iff.rfl⟩
      have hwS : w.heap.size < S0 := by rw [← hS0]; exact HX3.out.lt
      have hCC8 : ∀ W W', Below S0 W W' → CC W → CC W' := by
        intro W W' hb hc
        obtain ⟨h1, h2, h3, h4⟩ := (hCD _).1 hc
        exact (hCD _).2 ⟨h1.below hb hwS, h2.below hb, Nat.le_trans h3 hb.size, h4.trans (hb.mono (Nat.le_of_lt hwS))⟩
      have hsz : ∀ W, CC W → S0 ≤ W.heap.size := fun W h => ((hCD _).1 h).2.2.1
      have hmk : ∀ W, CC W → W.rangeAt w.heap.size 0 [.int .i64 f.level, .string f.name, .string f.low, .string f.high, .int .i64 f.many] ∧ CC W := fun W h => ⟨((hCD _).1 h).1.range, h⟩
      have hal : ∀ (W : World) (ob : Obj), CC W → CC (W.alloc ob) := fun W ob h => hCC8 _ _ ((Below.refl S0 W).alloc (hsz _ h) ob) h
      have hnew0 : ∀ W, CC W → Own (W.alloc (.cells #[] 76)) S0 76 5 (some ⟨W.heap.size, 0, none⟩) 0 0 [] := fun W h => (Own.new0' W 76 5).lower (hsz _ h)
      have hnew1 : ∀ W g, CC W → W.heap.size = g → Rd (W.alloc (.cells #[.int .i64 f.level, .string f.name, .string f.low, .string f.high, .int .i64 f.many] 76)) (W.alloc (.cells #[.int .i64 f.level, .string f.name, .string f.low, .string f.high, .int .i64 f.many] 76)).heap.size (some ⟨g, 0, none⟩) f.vals := fun W g h hg => by
        rw [← hg]
        exact (Rd.all' W 76 f.vals _ W.heap.size rfl rfl).more (Nat.le_of_eq (World.size_alloc _ _).symm)
      have hsrc1 : ∀ W, CC W → Rd W W.heap.size A (fis (l.take k)) := fun W h => (((hCD _).1 h).2.1.more (hsz _ h)).frontR Fi.vals_len (by omega)
      have hsrc2 : ∀ W, CC W → Rd W W.heap.size At (fis (l.drop k)) := fun W h => by
        rw [← hAt]
        exact (((hCD _).1 h).2.1.more (hsz _ h)).tailR Fi.vals_len rfl hcap (by omega)
      have hbw : ∀ W, CC W → Below w.heap.size w W := fun W h => ((hCD _).1 h).2.2.2
      have hl1 : (fis (l.take k)).length = k * 5 := by rw [fis_len, List.length_take]; omega
      have hl2 : (fis (l.drop k)).length = (l.length - k) * 5 := by rw [fis_len, List.length_drop]
      have HC := hmk _ ((hCD _).2 ⟨HX3.out.keep (w' := w3.drew) rfl, (hS0 ▸ HL3.out : Rd w3.drew S0 A (fis l)), Nat.le_of_eq hS0.symm, HB3.out.drew⟩)
      rw [hAt] at hsl2
      clear hAt hCD hS0
      refine region_wz (fun W' => W'.rangeAt w.heap.size 0 [.int .i64 f.level, .string f.name, .string f.low, .string f.high, .int .i64 f.many] ∧ CC W') none (by kernel_rfl) ?_
      apply WZ.take (i := 1) (some 21) rfl rfl (by kernel_rfl) (by kernel_rfl) (by kernel_rfl) (calm_panic _) (by kernel_rfl)
      case hy => (refine .inl ⟨by kernel_rfl, fun W hC => ?_⟩; (try dsimp only at hC); go_simp; (try simp only [hsl1,hsl2]); rfl)
      case hC => exact HC
      case ha => (simp only [Act.put, List.setIfInBounds_toArray, List.set_cons_zero, List.set_cons_succ]; rfl)
      apply WZ.take (i := 2) (some 22) rfl rfl (by kernel_rfl) (by kernel_rfl) (by kernel_rfl) (calm_panic _) (by kernel_rfl)
      case hy => (refine .inl ⟨by kernel_rfl, fun W hC => ?_⟩; (try dsimp only at hC); go_simp; (try simp only [hsl1,hsl2]); rfl)
      case hC => exact HC
      case ha => (simp only [Act.put, List.setIfInBounds_toArray, List.set_cons_zero, List.set_cons_succ]; rfl)
      apply WZ.take (i := 3) (some 23) rfl rfl (by kernel_rfl) (by kernel_rfl) (by kernel_rfl) (calm_panic _) (by kernel_rfl)
      case hy => (refine .inl ⟨by kernel_rfl, fun W hC => ?_⟩; (try dsimp only at hC); go_simp; (try simp only [hsl1,hsl2]); rfl)
      case hC => exact HC
      case ha => (simp only [Act.put, List.setIfInBounds_toArray, List.set_cons_zero, List.set_cons_succ]; rfl)
      apply WZ.take (i := 5) (some 25) rfl rfl (by kernel_rfl) (by kernel_rfl) (by kernel_rfl) (calm_panic _) (by kernel_rfl)
      case hy => first | (apply yieldsIf_load_mid (by kernel_rfl) _ _ rfl _ _ rfl; (case hS => (intro W hC; exact hC.1)); (case hu => exact Try.underlying76); (case hd => rfl); (case hi => kernel_rfl)) | (apply yieldsIf_load_mid (by kernel_rfl) _ _ rfl _ _ rfl; (case hS => (intro W hC; exact hC.2.1)); (case hu => exact Try.underlying76); (case hd => rfl); (case hi => kernel_rfl)) | (apply yieldsIf_load_mid (by kernel_rfl) _ _ rfl _ _ rfl; (case hS => (intro W hC; exact hC.2.2.1)); (case hu => exact Try.underlying76); (case hd => rfl); (case hi => kernel_rfl)) | (apply yieldsIf_load_mid (by kernel_rfl) _ _ rfl _ _ rfl; (case hS => (intro W hC; exact hC.2.2.2.1)); (case hu => exact Try.underlying76); (case hd => rfl); (case hi => kernel_rfl)) | (apply yieldsIf_load_mid (by kernel_rfl) _ _ rfl _ _ rfl; (case hS => (intro W hC; exact hC.2.2.2)); (case hu => exact Try.underlying76); (case hd => rfl); (case hi => kernel_rfl)) | (apply yieldsIf_load_mid (by kernel_rfl) _ _ rfl _ _ rfl; (case hS => (intro W hC; exact hC.2.2)); (case hu => exact Try.underlying76); (case hd => rfl); (case hi => kernel_rfl)) | (apply yieldsIf_load_mid (by kernel_rfl) _ _ rfl _ _ rfl; (case hS => (intro W hC; exact hC.2)); (case hu => exact Try.underlying76); (case hd => rfl); (case hi => kernel_rfl)) | (apply yieldsIf_load_mid (by kernel_rfl) _ _ rfl _ _ rfl; (case hS => (intro W hC; exact hC)); (case hu => exact Try.underlying76); (case hd => rfl); (case hi => kernel_rfl))
      case hC => exact HC
      case ha => (simp only [Act.put, List.setIfInBounds_toArray, List.set_cons_zero, List.set_cons_succ]; rfl)
      apply WZ.take (i := 8) (some 28) rfl rfl (by kernel_rfl) (by kernel_rfl) (by kernel_rfl) (calm_panic _) (by kernel_rfl)
      case hy => (refine .inl ⟨by kernel_rfl, fun W hC => ?_⟩; (try dsimp only at hC); go_simp; (try simp only [hsl1,hsl2]); rfl)
      case hC => exact HC
      case ha => (simp only [Act.put, List.setIfInBounds_toArray, List.set_cons_zero, List.set_cons_succ]; rfl)
      apply WZ.take (i := 9) (some 29) rfl rfl (by kernel_rfl) (by kernel_rfl) (by kernel_rfl) (calm_panic _) (by kernel_rfl)
      case hy => (refine .inl ⟨by kernel_rfl, fun W hC => ?_⟩; (try dsimp only at hC); go_simp; (try simp only [hsl1,hsl2]); rfl)
      case hC => exact HC
      case ha => (simp only [Act.put, List.setIfInBounds_toArray, List.set_cons_zero, List.set_cons_succ]; rfl)
      apply WZ.take (i := 10) (some 30) rfl rfl (by kernel_rfl) (by kernel_rfl) (by kernel_rfl) (calm_panic _) (by kernel_rfl)
      case hy => (refine .inl ⟨by kernel_rfl, fun W hC => ?_⟩; (try dsimp only at hC); go_simp; (try simp only [hsl1,hsl2]); rfl)
      case hC => exact HC
      case ha => (simp only [Act.put, List.setIfInBounds_toArray, List.set_cons_zero, List.set_cons_succ]; rfl)
      refine WZ.two (i := 0) (j := 6) rfl rfl (by kernel_rfl) ?_ ?_
      · conv => arg 4; arg 1; whnf
        go_wp2_with fail
        have hA0 := hnew0 _ HC.2
        try rw [World.size_alloc] at hA0
        have hA := own_any hA0
        clear hA0
        have HC2 := hmk _ (hal _ (.cells #[] 76) HC.2)
        try (have hR2 := hR.allocS (.cells #[] 76); clear hR; have hR := hR2; clear hR2)
        clear HC
        have HC := HC2
        clear HC2
        refine ⟨HC, ?_⟩
        refine WZ.two (i := 4) (j := 6) rfl rfl (by kernel_rfl) ?_ ?_
        · conv => arg 4; arg 1; whnf
          have hP := hsrc1 _ HC.2
          go_wp2_with (at_builtin; go_loud (refine wpList_app _ rfl _ _ _ rfl S0 76 i0 zeroFile 5 64 Try.underlying38 hi0 hz0 hz1 hz2 rfl (by decide) _ _ _ _ rfl (hA _ (by omega)) _ _ _ _ (fis (l.take k)) rfl hP hl1 (fis_one _) (by unfold maxLen; omega) (by omega) (hsz _ HC.2) ?_); intro A4 c4 w4 ho4 hg4 hat4)
          have HC2 := hmk _ (hCC8 _ _ (Own.grow (hA _ rfl) (Below.refl S0 _) (hsz _ HC.2) (Nat.le_refl _) hg4) HC.2)
          try (have hR2 := Rd.grownAt hR hg4 (by first | (simp [blk]; done) | (simp [blk]; omega)); clear hR; have hR := hR2; clear hR2)
          clear HC hA hP
          have HC := HC2
          have hA := own_any ho4
          clear HC2 ho4 hg4 hat4
          refine ⟨HC, ?_⟩
          -- 6
          refine WZ.one (i := 6) rfl (by kernel_rfl) ?_
          conv => arg 4; arg 1; whnf
          go_wp2_with fail
          first
            | have hR := hnew1 _ _ HC.2 (World.size_alloc _ _)
            | have hR := hnew1 _ _ HC.2 rfl
          have HC2 := hmk _ (hal _ (.cells #[.int .i64 f.level, .string f.name, .string f.low, .string f.high, .int .i64 f.many] 76) HC.2)
          try (have hA2 := own_any (Own.alloc (hA _ rfl) (.cells #[.int .i64 f.level, .string f.name, .string f.low, .string f.high, .int .i64 f.many] 76)); clear hA; have hA := hA2; clear hA2)
          clear HC
          have HC := HC2
          clear HC2
          refine ⟨HC, ?_⟩
          -- 7
          refine WZ.one (i := 7) rfl (by kernel_rfl) ?_
          conv => arg 4; arg 1; whnf
          go_wp2_with (at_builtin; go_loud (refine wpList_app _ rfl _ _ _ rfl S0 76 i0 zeroFile 5 64 Try.underlying38 hi0 hz0 hz1 hz2 rfl (by decide) _ _ _ _ rfl (hA _ (by omega)) _ _ _ _ f.vals rfl hR rfl (Fi.one f) (by unfold maxLen; omega) (by omega) (hsz _ HC.2) ?_); intro A4 c4 w4 ho4 hg4 hat4)
          have HC2 := hmk _ (hCC8 _ _ (Own.grow (hA _ rfl) (Below.refl S0 _) (hsz _ HC.2) (Nat.le_refl _) hg4) HC.2)
          clear HC hA hR
          have HC := HC2
          have hA := own_any ho4
          clear HC2 ho4 hg4 hat4
          refine ⟨HC, ?_⟩
          -- 11
          refine WZ.one (i := 11) rfl (by kernel_rfl) ?_
          conv => arg 4; arg 1; whnf
          have hP := hsrc2 _ HC.2
          go_wp2_with (at_builtin; go_loud (refine wpList_app _ rfl _ _ _ rfl S0 76 i0 zeroFile 5 64 Try.underlying38 hi0 hz0 hz1 hz2 rfl (by decide) _ _ _ _ rfl (hA _ (by omega)) _ _ _ _ (fis (l.drop k)) rfl hP hl2 (fis_one _) (by unfold maxLen; omega) (by omega) (hsz _ HC.2) ?_); intro A4 c4 w4 ho4 hg4 hat4)
          have HC2 := hmk _ (hCC8 _ _ (Own.grow (hA _ rfl) (Below.refl S0 _) (hsz _ HC.2) (Nat.le_refl _) hg4) HC.2)
          clear HC hA hP
          have HC := HC2
          have hA := own_any ho4
          clear HC2 ho4 hg4 hat4
          refine ⟨HC, ?_⟩
          apply WZ.take (i := 12) (some 4) rfl rfl (by kernel_rfl) (by kernel_rfl) (by kernel_rfl) (calm_panic _) (by kernel_rfl)
          case hy => (refine .inl ⟨by kernel_rfl, fun W hC => ?_⟩; (try dsimp only at hC); go_simp; (try simp only [hsl1,hsl2]); rfl)
          case hC => exact HC
          case ha => (simp only [Act.put, List.setIfInBounds_toArray, List.set_cons_zero, List.set_cons_succ]; rfl)
          refine WZ.done (by kernel_rfl) ?_ _
          simp only [Calm, Exit.then]
          have HR8 := Lib.hid (hA _ rfl)
          have HBW := Lib.hid (hbw _ HC.2)
          have hz8 := hsz _ HC.2
          clear HC hA
          have hln : k + 1 + (l.length - k) = l.length + 1 := by omega
          have hvs : fis (l.take k ++ f :: l.drop k) = [] ++ fis (l.take k) ++ f.vals ++ fis (l.drop k) := by simp [fis]
          have HLN := Lib.hid hln
          have HVS := Lib.hid hvs
          clear hln hvs
          go_wp2
          go_ret
          rw [HPUT.out]
          refine ⟨_, _, by first | (rw [← HLN.out]; rfl) | (rw [← HLN.out]), ?_, HBW.out⟩
          unfold OwnR
          rw [HVS.out]
          exact own_any (Own.lower HR8.out (by omega)) _ (by omega)
        · conv => arg 4; arg 1; whnf
          go_wp2_with fail
          first
            | have hR := hnew1 _ _ HC.2 (World.size_alloc _ _)
            | have hR := hnew1 _ _ HC.2 rfl
          have HC2 := hmk _ (hal _ (.cells #[.int .i64 f.level, .string f.name, .string f.low, .string f.high, .int .i64 f.many] 76) HC.2)
          try (have hA2 := own_any (Own.alloc (hA _ rfl) (.cells #[.int .i64 f.level, .string f.name, .string f.low, .string f.high, .int .i64 f.many] 76)); clear hA; have hA := hA2; clear hA2)
          clear HC
          have HC := HC2
          clear HC2
          refine ⟨HC, ?_⟩
          -- 4
          refine WZ.one (i := 4) rfl (by kernel_rfl) ?_
          conv => arg 4; arg 1; whnf
          have hP := hsrc1 _ HC.2
          go_wp2_with (at_builtin; go_loud (refine wpList_app _ rfl _ _ _ rfl S0 76 i0 zeroFile 5 64 Try.underlying38 hi0 hz0 hz1 hz2 rfl (by decide) _ _ _ _ rfl (hA _ (by omega)) _ _ _ _ (fis (l.take k)) rfl hP hl1 (fis_one _) (by unfold maxLen; omega) (by omega) (hsz _ HC.2) ?_); intro A4 c4 w4 ho4 hg4 hat4)
          have HC2 := hmk _ (hCC8 _ _ (Own.grow (hA _ rfl) (Below.refl S0 _) (hsz _ HC.2) (Nat.le_refl _) hg4) HC.2)
          try (have hR2 := Rd.grownAt hR hg4 (by first | (simp [blk]; done) | (simp [blk]; omega)); clear hR; have hR := hR2; clear hR2)
          clear HC hA hP
          have HC := HC2
          have hA := own_any ho4
          clear HC2 ho4 hg4 hat4
          refine ⟨HC, ?_⟩
          -- 7
          refine WZ.one (i := 7) rfl (by kernel_rfl) ?_
          conv => arg 4; arg 1; whnf
          go_wp2_with (at_builtin; go_loud (refine wpList_app _ rfl _ _ _ rfl S0 76 i0 zeroFile 5 64 Try.underlying38 hi0 hz0 hz1 hz2 rfl (by decide) _ _ _ _ rfl (hA _ (by omega)) _ _ _ _ f.vals rfl hR rfl (Fi.one f) (by unfold maxLen; omega) (by omega) (hsz _ HC.2) ?_); intro A4 c4 w4 ho4 hg4 hat4)
          have HC2 := hmk _ (hCC8 _ _ (Own.grow (hA _ rfl) (Below.refl S0 _) (hsz _ HC.2) (Nat.le_refl _) hg4) HC.2)
          clear HC hA hR
          have HC := HC2
          have hA := own_any ho4
          clear HC2 ho4 hg4 hat4
          refine ⟨HC, ?_⟩
          -- 11
          refine WZ.one (i := 11) rfl (by kernel_rfl) ?_
          conv => arg 4; arg 1; whnf
          have hP := hsrc2 _ HC.2
          go_wp2_with (at_builtin; go_loud (refine wpList_app _ rfl _ _ _ rfl S0 76 i0 zeroFile 5 64 Try.underlying38 hi0 hz0 hz1 hz2 rfl (by decide) _ _ _ _ rfl (hA _ (by omega)) _ _ _ _ (fis (l.drop k)) rfl hP hl2 (fis_one _) (by unfold maxLen; omega) (by omega) (hsz _ HC.2) ?_); intro A4 c4 w4 ho4 hg4 hat4)
          have HC2 := hmk _ (hCC8 _ _ (Own.grow (hA _ rfl) (Below.refl S0 _) (hsz _ HC.2) (Nat.le_refl _) hg4) HC.2)
          clear HC hA hP
          have HC := HC2
          have hA := own_any ho4
          clear HC2 ho4 hg4 hat4
          refine ⟨HC, ?_⟩
          apply WZ.take (i := 12) (some 4) rfl rfl (by kernel_rfl) (by kernel_rfl) (by kernel_rfl) (calm_panic _) (by kernel_rfl)
          case hy => (refine .inl ⟨by kernel_rfl, fun W hC => ?_⟩; (try dsimp only at hC); go_simp; (try simp only [hsl1,hsl2]); rfl)
          case hC => exact HC
          case ha => (simp only [Act.put, List.setIfInBounds_toArray, List.set_cons_zero, List.set_cons_succ]; rfl)
          refine WZ.done (by kernel_rfl) ?_ _
          simp only [Calm, Exit.then]
          have HR8 := Lib.hid (hA _ rfl)
          have HBW := Lib.hid (hbw _ HC.2)
          have hz8 := hsz _ HC.2
          clear HC hA
          have hln : k + 1 + (l.length - k) = l.length + 1 := by omega
          have hvs : fis (l.take k ++ f :: l.drop k) = [] ++ fis (l.take k) ++ f.vals ++ fis (l.drop k) := by simp [fis]
          have HLN := Lib.hid hln
          have HVS := Lib.hid hvs
          clear hln hvs
          go_wp2
          go_ret
          rw [HPUT.out]
          refine ⟨_, _, by first | (rw [← HLN.out]; rfl) | (rw [← HLN.out]), ?_, HBW.out⟩
          unfold OwnR
          rw [HVS.out]
          exact own_any (Own.lower HR8.out (by omega)) _ (by omega)
      · conv => arg 4; arg 1; whnf
        go_wp2_with fail
        first
          | have hR := hnew1 _ _ HC.2 (World.size_alloc _ _)
          | have hR := hnew1 _ _ HC.2 rfl
        have HC2 := hmk _ (hal _ (.cells #[.int .i64 f.level, .string f.name, .string f.low, .string f.high, .int .i64 f.many] 76) HC.2)
        try (have hA2 := own_any (Own.alloc (hA _ rfl) (.cells #[.int .i64 f.level, .string f.name, .string f.low, .string f.high, .int .i64 f.many] 76)); clear hA; have hA := hA2; clear hA2)
        clear HC
        have HC := HC2
        clear HC2
        refine ⟨HC, ?_⟩
        -- 0
        refine WZ.one (i := 0) rfl (by kernel_rfl) ?_
        conv => arg 4; arg 1; whnf
        go_wp2_with fail
        have hA0 := hnew0 _ HC.2
        try rw [World.size_alloc] at hA0
        have hA := own_any hA0
        clear hA0
        have HC2 := hmk _ (hal _ (.cells #[] 76) HC.2)
        try (have hR2 := hR.allocS (.cells #[] 76); clear hR; have hR := hR2; clear hR2)
        clear HC
        have HC := HC2
        clear HC2
        refine ⟨HC, ?_⟩
        -- 4
        refine WZ.one (i := 4) rfl (by kernel_rfl) ?_
        conv => arg 4; arg 1; whnf
        have hP := hsrc1 _ HC.2
        go_wp2_with (at_builtin; go_loud (refine wpList_app _ rfl _ _ _ rfl S0 76 i0 zeroFile 5 64 Try.underlying38 hi0 hz0 hz1 hz2 rfl (by decide) _ _ _ _ rfl (hA _ (by omega)) _ _ _ _ (fis (l.take k)) rfl hP hl1 (fis_one _) (by unfold maxLen; omega) (by omega) (hsz _ HC.2) ?_); intro A4 c4 w4 ho4 hg4 hat4)
        have HC2 := hmk _ (hCC8 _ _ (Own.grow (hA _ rfl) (Below.refl S0 _) (hsz _ HC.2) (Nat.le_refl _) hg4) HC.2)
        try (have hR2 := Rd.grownAt hR hg4 (by first | (simp [blk]; done) | (simp [blk]; omega)); clear hR; have hR := hR2; clear hR2)
        clear HC hA hP
        have HC := HC2
        have hA := own_any ho4
        clear HC2 ho4 hg4 hat4
        refine ⟨HC, ?_⟩
        -- 7
        refine WZ.one (i := 7) rfl (by kernel_rfl) ?_
        conv => arg 4; arg 1; whnf
        go_wp2_with (at_builtin; go_loud (refine wpList_app _ rfl _ _ _ rfl S0 76 i0 zeroFile 5 64 Try.underlying38 hi0 hz0 hz1 hz2 rfl (by decide) _ _ _ _ rfl (hA _ (by omega)) _ _ _ _ f.vals rfl hR rfl (Fi.one f) (by unfold maxLen; omega) (by omega) (hsz _ HC.2) ?_); intro A4 c4 w4 ho4 hg4 hat4)
        have HC2 := hmk _ (hCC8 _ _ (Own.grow (hA _ rfl) (Below.refl S0 _) (hsz _ HC.2) (Nat.le_refl _) hg4) HC.2)
        clear HC hA hR
        have HC := HC2
        have hA := own_any ho4
        clear HC2 ho4 hg4 hat4
        refine ⟨HC, ?_⟩
        -- 11
        refine WZ.one (i := 11) rfl (by kernel_rfl) ?_
        conv => arg 4; arg 1; whnf
        have hP := hsrc2 _ HC.2
        go_wp2_with (at_builtin; go_loud (refine wpList_app _ rfl _ _ _ rfl S0 76 i0 zeroFile 5 64 Try.underlying38 hi0 hz0 hz1 hz2 rfl (by decide) _ _ _ _ rfl (hA _ (by omega)) _ _ _ _ (fis (l.drop k)) rfl hP hl2 (fis_one _) (by unfold maxLen; omega) (by omega) (hsz _ HC.2) ?_); intro A4 c4 w4 ho4 hg4 hat4)
        have HC2 := hmk _ (hCC8 _ _ (Own.grow (hA _ rfl) (Below.refl S0 _) (hsz _ HC.2) (Nat.le_refl _) hg4) HC.2)
        clear HC hA hP
        have HC := HC2
        have hA := own_any ho4
        clear HC2 ho4 hg4 hat4
        refine ⟨HC, ?_⟩
        apply WZ.take (i := 12) (some 4) rfl rfl (by kernel_rfl) (by kernel_rfl) (by kernel_rfl) (calm_panic _) (by kernel_rfl)
        case hy => (refine .inl ⟨by kernel_rfl, fun W hC => ?_⟩; (try dsimp only at hC); go_simp; (try simp only [hsl1,hsl2]); rfl)
        case hC => exact HC
        case ha => (simp only [Act.put, List.setIfInBounds_toArray, List.set_cons_zero, List.set_cons_succ]; rfl)
        refine WZ.done (by kernel_rfl) ?_ _
        simp only [Calm, Exit.then]
        have HR8 := Lib.hid (hA _ rfl)
        have HBW := Lib.hid (hbw _ HC.2)
        have hz8 := hsz _ HC.2
        clear HC hA
        have hln : k + 1 + (l.length - k) = l.length + 1 := by omega
        have hvs : fis (l.take k ++ f :: l.drop k) = [] ++ fis (l.take k) ++ f.vals ++ fis (l.drop k) := by simp [fis]
        have HLN := Lib.hid hln
        have HVS := Lib.hid hvs
        clear hln hvs
        go_wp2
        go_ret
        rw [HPUT.out]
        refine ⟨_, _, by first | (rw [← HLN.out]; rfl) | (rw [← HLN.out]), ?_, HBW.out⟩
        unfold OwnR
        rw [HVS.out]
        exact own_any (Own.lower HR8.out (by omega)) _ (by omega)
end Go.Proofs.Ytaeemeoffnhgfaa
