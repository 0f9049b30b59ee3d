/-
  The reference's rows of jobs and clients; its Find, its twice. No conditions.
-/
import Derived.Test.YtiiogdgnccgehaaJK
import Derived.Deep.DeepCutAuto
namespace Go.Proofs.Ytiiogdgnccgehaa
open Go.RowKit
attribute [local go_sem ↓] Go.wp_at_zero Go.wp_at_succ
theorem rjInfo : (Try.prog.info? 67).map (fun i => (i.zero, i.size, i.bytes)) = some (some zeroJb, 3, 24) := by kernel_rfl
theorem rkInfo : (Try.prog.info? 106).map (fun i => (i.zero, i.size, i.bytes)) = some (some zeroKl, 3, 24) := by kernel_rfl

def OwnRJ (w : World) (B : Nat) (A : Option Addr) (n c : Nat) (l : List Jb) : Prop := Own w B 67 3 A n c (jbs l)
theorem OwnRJ.len {w : World} {B n c : Nat} {A : Option Addr} {l : List Jb} (h : OwnRJ w B A n c l) : l.length = n := by
  have := h.1
  rw [jbs_len] at this
  omega
theorem OwnRJ.rd {w : World} {B n c : Nat} {A : Option Addr} {l : List Jb} (h : OwnRJ w B A n c l) : Rd w w.heap.size A (jbs l) := Own.rd h (by omega)
theorem OwnRJ.below {w w' : World} {B n c : Nat} {A : Option Addr} {l : List Jb} (h : OwnRJ w B A n c l) (hb : Below w.heap.size w w') : OwnRJ w' B A n c l := Own.below h hb
theorem OwnRJ.lower {w : World} {B B' n c : Nat} {A : Option Addr} {l : List Jb} (h : OwnRJ w B A n c l) (hB : B' ≤ B) : OwnRJ w B' A n c l := Own.lower h hB
theorem OwnRJ.le {w : World} {B n c : Nat} {A : Option Addr} {l : List Jb} (h : OwnRJ w B A n c l) : n ≤ c := by
  rcases h.2 with ⟨_, h2⟩ | ⟨g, cap, cur, hv, hb, hg, h3, h4, h5, h6⟩
  · omega
  · injection hv with _ _ hc
    omega
theorem OwnRJ.nil {w : World} {B : Nat} : OwnRJ w B none 0 0 [] := Own.nil
theorem rjobs_app {w : World} {ops : Array Oper} {rest : List Oper} {o : Oper} {a : Act} {Q : Exit → Act → World → Prop} (hw : Region.wanted o (yielded ops a.tmps) = true) (s x : Operand)
    (ho : o.op = .call { callee := .builtin .append, args := #[s, x], argTypes := #[48, 48] })
    (B : Nat) (A : Option Addr) (n c N : Nat) (L add : List Jb) (hs : a.eval s = .slice A n c) (hown : OwnRJ w B A n c L) (A2 : Option Addr) (m c2 : Nat) (hx : a.eval x = .slice A2 m c2) (hr : Rd w w.heap.size A2 (jbs add)) (hm : add.length = m)
    (hN : n + m = N) (hl : N ≤ 1000000) (hB : B ≤ w.heap.size)
    (h : ∀ A' c' w', Hid (OwnRJ w' B A' N c' (L ++ add)) → Hid (w.grownBy w' (blk A)) → wpList Try.prog ops Q rest (a.put o.dst (.slice A' N c')) w') : wpList Try.prog ops Q (o :: rest) a w := by
  obtain ⟨i0, hi0, hz0, hz1, hz2⟩ := info_parts rjInfo
  subst hN
  refine wpList_app_g hw s x 48 ho B 67 i0 zeroJb 3 24 Try.underlying48 hi0 hz0 hz1 hz2 rfl (by decide) A n c (jbs L) hs hown w.heap.size A2 m c2 (jbs add) hx hr (by rw [jbs_len, hm]) (jbs_one add) (by unfold maxLen; omega) (by omega) hB ?_
  intro A' c' w' h1 h2 _
  exact h A' c' w' (Lib.hid (by unfold OwnRJ; rw [← jbs_app]; exact h1)) (Lib.hid h2)
theorem OwnRJ.cap {w : World} {B n c : Nat} {A : Option Addr} {l : List Jb} (h : OwnRJ w B A n c l) : c ≤ maxLen := by
  rcases h.2 with ⟨hv, h2⟩ | ⟨g, cap, cur, hv, hb, hg, h3, h4, h5, h6⟩
  · injection hv with _ _ hc
    unfold maxLen
    omega
  · injection hv with _ _ hc
    omega
def OwnRK (w : World) (B : Nat) (A : Option Addr) (n c : Nat) (l : List Kl) : Prop := Own w B 106 3 A n c (kls l)
theorem OwnRK.len {w : World} {B n c : Nat} {A : Option Addr} {l : List Kl} (h : OwnRK w B A n c l) : l.length = n := by
  have := h.1
  rw [kls_len] at this
  omega
theorem OwnRK.rd {w : World} {B n c : Nat} {A : Option Addr} {l : List Kl} (h : OwnRK w B A n c l) : Rd w w.heap.size A (kls l) := Own.rd h (by omega)
theorem OwnRK.below {w w' : World} {B n c : Nat} {A : Option Addr} {l : List Kl} (h : OwnRK w B A n c l) (hb : Below w.heap.size w w') : OwnRK w' B A n c l := Own.below h hb
theorem OwnRK.lower {w : World} {B B' n c : Nat} {A : Option Addr} {l : List Kl} (h : OwnRK w B A n c l) (hB : B' ≤ B) : OwnRK w B' A n c l := Own.lower h hB
theorem OwnRK.le {w : World} {B n c : Nat} {A : Option Addr} {l : List Kl} (h : OwnRK w B A n c l) : n ≤ c := by
  rcases h.2 with ⟨_, h2⟩ | ⟨g, cap, cur, hv, hb, hg, h3, h4, h5, h6⟩
  · omega
  · injection hv with _ _ hc
    omega
theorem OwnRK.nil {w : World} {B : Nat} : OwnRK w B none 0 0 [] := Own.nil
theorem rclients_app {w : World} {ops : Array Oper} {rest : List Oper} {o : Oper} {a : Act} {Q : Exit → Act → World → Prop} (hw : Region.wanted o (yielded ops a.tmps) = true) (s x : Operand)
    (ho : o.op = .call { callee := .builtin .append, args := #[s, x], argTypes := #[49, 49] })
    (B : Nat) (A : Option Addr) (n c N : Nat) (L add : List Kl) (hs : a.eval s = .slice A n c) (hown : OwnRK w B A n c L) (A2 : Option Addr) (m c2 : Nat) (hx : a.eval x = .slice A2 m c2) (hr : Rd w w.heap.size A2 (kls add)) (hm : add.length = m)
    (hN : n + m = N) (hl : N ≤ 1000000) (hB : B ≤ w.heap.size)
    (h : ∀ A' c' w', Hid (OwnRK w' B A' N c' (L ++ add)) → Hid (w.grownBy w' (blk A)) → wpList Try.prog ops Q rest (a.put o.dst (.slice A' N c')) w') : wpList Try.prog ops Q (o :: rest) a w := by
  obtain ⟨i0, hi0, hz0, hz1, hz2⟩ := info_parts rkInfo
  subst hN
  refine wpList_app_g hw s x 49 ho B 106 i0 zeroKl 3 24 Try.underlying49 hi0 hz0 hz1 hz2 rfl (by decide) A n c (kls L) hs hown w.heap.size A2 m c2 (kls add) hx hr (by rw [kls_len, hm]) (kls_one add) (by unfold maxLen; omega) (by omega) hB ?_
  intro A' c' w' h1 h2 _
  exact h A' c' w' (Lib.hid (by unfold OwnRK; rw [← kls_app]; exact h1)) (Lib.hid h2)
theorem OwnRK.cap {w : World} {B n c : Nat} {A : Option Addr} {l : List Kl} (h : OwnRK w B A n c l) : c ≤ maxLen := by
  rcases h.2 with ⟨hv, h2⟩ | ⟨g, cap, cur, hv, hb, hg, h3, h4, h5, h6⟩
  · injection hv with _ _ hc
    unfold maxLen
    omega
  · injection hv with _ _ hc
    omega
theorem findS_hit {l : List Jb} {id k : Nat} (hk : k < l.length) (h : okTo (fun j => j.id ≠ id) l k) (he : l[k].id = id) : findS l id = (l[k], true) := by
  have : l.find? (hasId id) = some l[k] := by
    rw [List.find?_eq_some_iff_getElem]
    refine ⟨decide_eq_true he, k, hk, rfl, fun j hj => ?_⟩
    have := h l[j] (List.mem_take_iff_getElem.2 ⟨j, by omega, rfl⟩)
    simp [hasId, this]
  unfold findS
  rw [this]
theorem findS_miss {l : List Jb} {id : Nat} (h : ∀ x ∈ l, x.id ≠ id) : findS l id = (⟨0, 0, 0⟩, false) := by
  have : l.find? (hasId id) = none := by
    rw [List.find?_eq_none]
    intro x hx
    simp [hasId, h x hx]
  unfold findS
  rw [this]
set_option maxRecDepth 20000 in
set_option maxHeartbeats 4000000 in
theorem refFind_any (s : Sta) (x : SA) (id : Nat) (w : World) (hin : StaIn w w.heap.size s x) (hl : s.jobs.length ≤ 1000) :
    Calls Try.prog 25 #[.agg (s.vs x).toArray, .int .u64 id] w fun e w' => e = .returned (.tuple #[.agg (findS s.jobs id).1.vs.toArray, .bool (findS s.jobs id).2]) ∧ Below w.heap.size w w' := by
  obtain ⟨index, epoch, borders, jobs, clients⟩ := s
  obtain ⟨A, a, D, d, F, f⟩ := x
  have hrj := hin.rj
  simp only at hrj hl
  clear hin
  unfold Sta.vs
  obtain ⟨N, hN⟩ : ∃ N, jobs.length = N := ⟨_, rfl⟩
  have HN := Lib.hid hN
  simp only [hN] at hl ⊢
  obtain ⟨b1, b2, b3⟩ := two_blocks w 51 67 [.int .u64 index, .int .u64 epoch, .slice A borders.length a, .slice D N d, .slice F clients.length f] [.int .u64 0, .int .u32 0, .int .u64 0]
  have HS := Lib.hid b1
  have HZ := Lib.hid b2
  have HB := Lib.hid b3
  have HRJ := Lib.hid hrj
  clear b1 b2 b3 hrj hN
  go_enter Try.func25, Try.ntmps25
  go_wp2
  go_loopw [6] (fun vi wr => ∃ k : Nat, k ≤ N ∧ vi = .int .i64 (k : Int) ∧ Hid (okTo (fun j => j.id ≠ id) jobs k) ∧ Hid (Blk 51 wr w.heap.size [.int .u64 index, .int .u64 epoch, .slice A borders.length a, .slice D N d, .slice F clients.length f]) ∧ Hid (Blk 67 wr (w.heap.size + 1) [.int .u64 0, .int .u32 0, .int .u64 0]) ∧ Hid (Below w.heap.size w wr)) (fun vi _ => N - (intOf vi).toNat)
  case atStart => exact ⟨0, Nat.zero_le _, rfl, Lib.hid (okTo_zero _ _), HS, HZ, HB⟩
  case round =>
    clear HS HZ HB
    obtain ⟨k, hk, rfl, HU, HS, HZ, HB⟩ := hrel
    rename World => wr
    have d3 := HS.out.cell (j := 3) rfl
    by_cases hlt : k < N
    · have hkl : k < jobs.length := by rw [HN.out]; exact hlt
      have e1 : decide ((k : Int) < (N : Int)) = true := decide_eq_true (by omega)
      have k1 : (0 : Int) ≤ (k : Int) := by omega
      have k2 : (k : Int) < (N : Int) := by omega
      have hw3 : IntKind.i64.wrap ((k : Int) + 1) = ((k + 1 : Nat) : Int) := by rw [IntWalk.i64_in _ (by omega)]; omega
      obtain ⟨b, o, rfl, hb0, hc⟩ := (HRJ.out.below HB.out).at_ (jbs_ne hkl)
      have r1 := Rd.enc_range Jb.vs_len hc k hkl
      have HU2 := Lib.hid (fun h => okTo_succ HU.out hkl h)
      have HF := Lib.hid (fun h => findS_hit hkl HU.out h)
      obtain ⟨y, hy⟩ : ∃ y, jobs[k] = y := ⟨_, rfl⟩
      rw [hy] at r1 HU2 HF
      have R1 := Lib.hid r1
      have c0 := (show wr.cell? ⟨b, o + k * 3, none⟩ = some (.int .u64 y.id) from r1 0 _ rfl)
      clear hc hb0 hy r1
      by_cases hid : y.id = id
      · have q1 : ((y.id : Int) == (id : Int)) = true := by rw [ofnat_beq]; exact decide_eq_true hid
        have HR := Lib.hid (HF.out hid)
        clear HF HU2 hid
        go_wp2_with (first
          | ((with_reducible show wpList _ _ _ ({ dst := some 26, op := Op.load _ _, type := _, pos := _, after := _, guard := _ } :: _) _ _); go_loud (refine wpList_load_mid rfl 67 (.tmp 25) rfl b (o + k * 3) rfl y.vs _ R1.out Try.underlying67 rfl (by kernel_rfl) ?_))
          | ((with_reducible show wpList _ _ _ ({ dst := none, op := Op.store _ (Operand.tmp 4) _, type := _, pos := _, after := _, guard := _ } :: _) _ _); go_loud (refine wpList_store_mid rfl 67 (.tmp 4) (.tmp 26) rfl (w.heap.size + 1) 0 y.vs.toArray rfl rfl (HZ.out.there 3 (Nat.le_refl _)) (by kernel_rfl) (by simp [Value.oneCell', Jb.vs]) ?_); refine HZ.out.setW y.vs rfl ?_; intro w2 HZ2 HG2))
        (try simp only [Exit.inBlock, Exit.then])
        refine bodyPost_ret (blk_results rfl Try.underlying67 rfl _ _ (w.heap.size + 1) _ (by kernel_rfl) _ rfl rfl HZ2.out) rfl ?_
        exact ⟨by rw [HR.out]; rfl, below_grown HB.out HB.out.size HG2.out (by omega)⟩
      · have q1 : ((y.id : Int) == (id : Int)) = false := by rw [ofnat_beq]; exact decide_eq_false hid
        have HU3 := Lib.hid (HU2.out hid)
        clear HF HU2 hid R1
        go_wp2
        exact ⟨⟨k + 1, by omega, by first | rfl | go_num, HU3, HS, HZ, HB⟩, by simp [intOf]; omega⟩
    · have e1 : decide ((k : Int) < (N : Int)) = false := decide_eq_false (by omega)
      have HR := Lib.hid (findS_miss (okTo_end HU.out (by rw [HN.out]; omega)))
      go_wp2_with ((with_reducible show wpList _ _ _ ({ dst := none, op := Op.store _ (Operand.tmp 4) _, type := _, pos := _, after := _, guard := _ } :: _) _ _); go_loud (refine wpList_store_mid rfl 67 (.tmp 4) (.tmp 27) rfl (w.heap.size + 1) 0 #[.int .u64 0, .int .u32 0, .int .u64 0] rfl rfl (HZ.out.there 3 (Nat.le_refl _)) (by kernel_rfl) (by simp [Value.oneCell']) ?_); refine HZ.out.setW [.int .u64 0, .int .u32 0, .int .u64 0] rfl ?_; intro w2 HZ2 HG2)
      (try simp only [Exit.inBlock, Exit.then])
      refine bodyPost_ret (blk_results rfl Try.underlying67 rfl _ _ (w.heap.size + 1) _ (by kernel_rfl) _ rfl rfl HZ2.out) rfl ?_
      exact ⟨by rw [HR.out]; rfl, below_grown HB.out HB.out.size HG2.out (by omega)⟩

theorem same_comm (a b : Cl) : a.same b = b.same a := by
  unfold Cl.same
  rw [decide_eq_decide]
  constructor <;> (rintro ⟨h1, h2, h3⟩; exact ⟨h1.symm, h2.symm, h3.symm⟩)
theorem dup_yes {l : List Cl} {k j : Nat} (hk : k < l.length) (hj : j < k) (h : l[k].same l[j] = true) : dupAt l k = true := by
  rw [dupAt_at hk, List.any_eq_true]
  exact ⟨l[j], List.mem_take_iff_getElem.2 ⟨j, by omega, rfl⟩, by rw [same_comm]; exact h⟩
theorem dup_no {l : List Cl} {k : Nat} {y : Cl} (hk : k < l.length) (hy : l[k] = y) (h : okTo (fun x => y.same x = false) l k) : dupAt l k = false := by
  subst hy
  rw [dupAt_at hk, List.any_eq_false]
  intro x hx
  rw [same_comm, h x hx]
  exact Bool.false_ne_true
set_option maxRecDepth 20000 in
set_option maxHeartbeats 4000000 in
theorem refTwice_any (A : Option Addr) (c : Nat) (l : List Cl) (w : World) (hl : Rd w w.heap.size A (vals l)) (hlen : l.length ≤ 1000000) :
    Calls Try.prog 76 #[.slice A l.length c] w fun e w' => e = .returned (.bool (twiceL l)) ∧ Below w.heap.size w w' := by
  have HL := Lib.hid hl
  obtain ⟨N, hN⟩ : ∃ N, l.length = N := ⟨_, rfl⟩
  have HN := Lib.hid hN
  rw [hN] at hlen ⊢
  clear hl hN
  go_enter Try.func76, Try.ntmps76
  go_wp2
  go_loopw [3] (fun vi wr => ∃ k : Nat, k ≤ N ∧ vi = .int .i64 (k : Int) ∧ Hid (∀ i, i < k → dupAt l i = false) ∧ Hid (Below w.heap.size w wr)) (fun vi _ => N - (intOf vi).toNat)
  case atStart => exact ⟨0, Nat.zero_le _, rfl, Lib.hid (fun i h => by omega), Lib.hid (Below.refl _ _)⟩
  case round =>
    obtain ⟨k, hk, rfl, HU, HB⟩ := hrel
    rename World => wr
    by_cases hlt : k < N
    · have hkl : k < l.length := by rw [HN.out]; exact hlt
      have e1 : decide ((k : Int) < (N : Int)) = true := decide_eq_true (by omega)
      have k1 : (0 : Int) ≤ (k : Int) := by omega
      have k2 : (k : Int) < (N : Int) := by omega
      have hw3 : IntKind.i64.wrap ((k : Int) + 1) = ((k + 1 : Nat) : Int) := by rw [IntWalk.i64_in _ (by omega)]; omega
      obtain ⟨b, o, rfl, hb, hc⟩ := HL.out.at_ (vals_ne hkl)
      have HRG := Lib.hid (fun (i : Nat) (h : i < l.length) (W : World) (hbw : Below w.heap.size w W) => rangeAt_below (Rd.enc_range Cl.vals_len hc i h) hbw hb)
      obtain ⟨y, hy⟩ : ∃ y, l[k] = y := ⟨_, rfl⟩
      have HY := Lib.hid hy
      have hry := HRG.out k hkl
      rw [hy] at hry
      have HRY := Lib.hid hry
      clear hc hy hry
      go_wp2
      go_loopw [4] (fun vj wv => ∃ j : Nat, j ≤ k ∧ vj = .int .i64 (j : Int) ∧ Hid (okTo (fun x => y.same x = false) l j) ∧ Hid (Below w.heap.size w wv)) (fun vj _ => k - (intOf vj).toNat)
      case atStart => exact ⟨0, Nat.zero_le _, rfl, Lib.hid (okTo_zero _ _), HB⟩
      case round =>
        clear HB
        obtain ⟨j, hj, rfl, HV, HB⟩ := hrel
        rename World => wv
        by_cases hjk : j < k
        · have hjl : j < l.length := by omega
          have j1 : decide ((j : Int) < (k : Int)) = true := decide_eq_true (by omega)
          have j2 : (0 : Int) ≤ (j : Int) := by omega
          have j3 : (j : Int) < (N : Int) := by omega
          have hw4 : IntKind.i64.wrap ((j : Int) + 1) = ((j + 1 : Nat) : Int) := by rw [IntWalk.i64_in _ (by omega)]; omega
          obtain ⟨x, hx⟩ : ∃ x, l[j] = x := ⟨_, rfl⟩
          have hrx := HRG.out j hjl
          rw [hx] at hrx
          have HRX := Lib.hid hrx
          have HX := Lib.hid hx
          obtain ⟨q, hq⟩ : ∃ q, y.same x = q := ⟨_, rfl⟩
          have HQ := Lib.hid hq
          clear hx hrx hq
          have hcell : ∀ W, Hid (Below w.heap.size w W) → W.rangeAt b (o + k * 6) y.vals ∧ W.rangeAt b (o + j * 6) x.vals := fun W h => ⟨HRY.out W h.out, HRX.out W h.out⟩
          go_wp2
          have HB0 := HB
          clear HB
          have HB := Lib.hid (HB0.out.drew)
          clear HB0
          have HC := hcell _ HB
          refine region_wz (fun W => W.rangeAt b (o + k * 6) y.vals ∧ W.rangeAt b (o + j * 6) x.vals) none (by kernel_rfl) ?_
          apply WZ.take (i := 0) (some 16) rfl rfl (by kernel_rfl) (by kernel_rfl) (by kernel_rfl) (calm_panic _) (by kernel_rfl)
          case hy => (refine .inl ⟨by kernel_rfl, fun W hC => ?_⟩; (try dsimp only at hC); go_simp; rfl)
          case hC => exact HC
          case ha => (simp only [Act.put, List.setIfInBounds_toArray, List.set_cons_zero, List.set_cons_succ]; rfl)
          apply WZ.take (i := 1) (some 17) rfl rfl (by kernel_rfl) (by kernel_rfl) (by kernel_rfl) (calm_panic _) (by kernel_rfl)
          case hy => (refine .inl ⟨by kernel_rfl, fun W hC => ?_⟩; (try dsimp only at hC); go_simp; rfl)
          case hC => exact HC
          case ha => (simp only [Act.put, List.setIfInBounds_toArray, List.set_cons_zero, List.set_cons_succ]; rfl)
          apply WZ.take (i := 2) (some 18) rfl rfl (by kernel_rfl) (by kernel_rfl) (by kernel_rfl) (calm_panic _) (by kernel_rfl)
          case hy => (refine .inl ⟨by kernel_rfl, fun W hC => ?_⟩; (try dsimp only at hC); go_simp; rfl)
          case hC => exact HC
          case ha => (simp only [Act.put, List.setIfInBounds_toArray, List.set_cons_zero, List.set_cons_succ]; rfl)
          apply WZ.take (i := 3) (some 19) rfl rfl (by kernel_rfl) (by kernel_rfl) (by kernel_rfl) (calm_panic _) (by kernel_rfl)
          case hy => first | (apply yieldsIf_load_mid (by kernel_rfl) _ _ rfl _ _ rfl; (case hS => (intro W hC; exact hC.1)); (case hu => exact Try.underlying75); (case hd => rfl); (case hi => kernel_rfl)) | (apply yieldsIf_load_mid (by kernel_rfl) _ _ rfl _ _ rfl; (case hS => (intro W hC; exact hC.2.1)); (case hu => exact Try.underlying75); (case hd => rfl); (case hi => kernel_rfl)) | (apply yieldsIf_load_mid (by kernel_rfl) _ _ rfl _ _ rfl; (case hS => (intro W hC; exact hC.2.2.1)); (case hu => exact Try.underlying75); (case hd => rfl); (case hi => kernel_rfl)) | (apply yieldsIf_load_mid (by kernel_rfl) _ _ rfl _ _ rfl; (case hS => (intro W hC; exact hC.2.2.2.1)); (case hu => exact Try.underlying75); (case hd => rfl); (case hi => kernel_rfl)) | (apply yieldsIf_load_mid (by kernel_rfl) _ _ rfl _ _ rfl; (case hS => (intro W hC; exact hC.2.2.2)); (case hu => exact Try.underlying75); (case hd => rfl); (case hi => kernel_rfl)) | (apply yieldsIf_load_mid (by kernel_rfl) _ _ rfl _ _ rfl; (case hS => (intro W hC; exact hC.2.2)); (case hu => exact Try.underlying75); (case hd => rfl); (case hi => kernel_rfl)) | (apply yieldsIf_load_mid (by kernel_rfl) _ _ rfl _ _ rfl; (case hS => (intro W hC; exact hC.2)); (case hu => exact Try.underlying75); (case hd => rfl); (case hi => kernel_rfl)) | (apply yieldsIf_load_mid (by kernel_rfl) _ _ rfl _ _ rfl; (case hS => (intro W hC; exact hC)); (case hu => exact Try.underlying75); (case hd => rfl); (case hi => kernel_rfl))
          case hC => exact HC
          case ha => (simp only [Act.put, List.setIfInBounds_toArray, List.set_cons_zero, List.set_cons_succ]; rfl)
          apply WZ.take (i := 4) (some 20) rfl rfl (by kernel_rfl) (by kernel_rfl) (by kernel_rfl) (calm_panic _) (by kernel_rfl)
          case hy => (refine .inl ⟨by kernel_rfl, fun W hC => ?_⟩; (try dsimp only at hC); go_simp; rfl)
          case hC => exact HC
          case ha => (simp only [Act.put, List.setIfInBounds_toArray, List.set_cons_zero, List.set_cons_succ]; rfl)
          apply WZ.take (i := 5) (some 21) rfl rfl (by kernel_rfl) (by kernel_rfl) (by kernel_rfl) (calm_panic _) (by kernel_rfl)
          case hy => (refine .inl ⟨by kernel_rfl, fun W hC => ?_⟩; (try dsimp only at hC); go_simp; rfl)
          case hC => exact HC
          case ha => (simp only [Act.put, List.setIfInBounds_toArray, List.set_cons_zero, List.set_cons_succ]; rfl)
          apply WZ.take (i := 6) (some 22) rfl rfl (by kernel_rfl) (by kernel_rfl) (by kernel_rfl) (calm_panic _) (by kernel_rfl)
          case hy => (refine .inl ⟨by kernel_rfl, fun W hC => ?_⟩; (try dsimp only at hC); go_simp; rfl)
          case hC => exact HC
          case ha => (simp only [Act.put, List.setIfInBounds_toArray, List.set_cons_zero, List.set_cons_succ]; rfl)
          apply WZ.take (i := 7) (some 23) rfl rfl (by kernel_rfl) (by kernel_rfl) (by kernel_rfl) (calm_panic _) (by kernel_rfl)
          case hy => first | (apply yieldsIf_load_mid (by kernel_rfl) _ _ rfl _ _ rfl; (case hS => (intro W hC; exact hC.1)); (case hu => exact Try.underlying75); (case hd => rfl); (case hi => kernel_rfl)) | (apply yieldsIf_load_mid (by kernel_rfl) _ _ rfl _ _ rfl; (case hS => (intro W hC; exact hC.2.1)); (case hu => exact Try.underlying75); (case hd => rfl); (case hi => kernel_rfl)) | (apply yieldsIf_load_mid (by kernel_rfl) _ _ rfl _ _ rfl; (case hS => (intro W hC; exact hC.2.2.1)); (case hu => exact Try.underlying75); (case hd => rfl); (case hi => kernel_rfl)) | (apply yieldsIf_load_mid (by kernel_rfl) _ _ rfl _ _ rfl; (case hS => (intro W hC; exact hC.2.2.2.1)); (case hu => exact Try.underlying75); (case hd => rfl); (case hi => kernel_rfl)) | (apply yieldsIf_load_mid (by kernel_rfl) _ _ rfl _ _ rfl; (case hS => (intro W hC; exact hC.2.2.2)); (case hu => exact Try.underlying75); (case hd => rfl); (case hi => kernel_rfl)) | (apply yieldsIf_load_mid (by kernel_rfl) _ _ rfl _ _ rfl; (case hS => (intro W hC; exact hC.2.2)); (case hu => exact Try.underlying75); (case hd => rfl); (case hi => kernel_rfl)) | (apply yieldsIf_load_mid (by kernel_rfl) _ _ rfl _ _ rfl; (case hS => (intro W hC; exact hC.2)); (case hu => exact Try.underlying75); (case hd => rfl); (case hi => kernel_rfl)) | (apply yieldsIf_load_mid (by kernel_rfl) _ _ rfl _ _ rfl; (case hS => (intro W hC; exact hC)); (case hu => exact Try.underlying75); (case hd => rfl); (case hi => kernel_rfl))
          case hC => exact HC
          case ha => (simp only [Act.put, List.setIfInBounds_toArray, List.set_cons_zero, List.set_cons_succ]; rfl)
          -- 8
          refine WZ.one (i := 8) rfl (by kernel_rfl) ?_
          conv => arg 4; arg 1; whnf
          go_wp2_with (go_at_call 90; go_loud (refine (refSame_any y x _).mono ?_); rw [HQ.out]; rintro e' w9 ⟨rfl, hb9⟩; have HB0 := HB; clear HB; have HB := Lib.hid (HB0.out.trans (hb9.mono HB0.out.size)); clear HB0 hb9)
          clear HC
          have HC := hcell _ HB
          refine ⟨HC, ?_⟩
          refine WZ.done (by kernel_rfl) ?_ _
          simp only [Calm, Exit.then]
          cases q with
          | true =>
            have HF := Lib.hid (twiceL_hit hkl (dup_yes hkl hjk (by rw [HY.out, HX.out]; exact HQ.out)))
            go_wp2
            go_ret
            exact ⟨ret_bool HF.out.symm, HB.out⟩
          | false =>
            have HV2 := Lib.hid (okTo_succ HV.out hjl (by rw [HX.out]; exact HQ.out))
            go_wp2
            exact ⟨⟨j + 1, by omega, by first | rfl | go_num, HV2, HB⟩, by simp [intOf]; omega⟩
        · have j1 : decide ((j : Int) < (k : Int)) = false := decide_eq_false (by omega)
          have hjk' : j = k := by omega
          subst hjk'
          have HU2 := Lib.hid (fun i (h : i < j + 1) => show dupAt l i = false by
            by_cases e : i = j
            · subst e; exact dup_no hkl HY.out HV.out
            · exact HU.out i (by omega))
          go_wp2
          exact ⟨⟨j + 1, by omega, by first | rfl | go_num, HU2, HB⟩, by simp [intOf]; omega⟩
    · have e1 : decide ((k : Int) < (N : Int)) = false := decide_eq_false (by omega)
      have HF := Lib.hid (twiceL_miss (fun i h => HU.out i (by have := HN.out; omega)))
      go_wp2
      go_ret
      exact ⟨ret_bool HF.out.symm, HB.out⟩
end Go.Proofs.Ytiiogdgnccgehaa
