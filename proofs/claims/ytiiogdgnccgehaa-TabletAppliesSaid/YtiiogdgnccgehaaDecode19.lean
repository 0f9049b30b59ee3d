/-
  The walk of tablet.Decode. No conditions.
-/
import Derived.Test.YtiiogdgnccgehaaDecPlain19
namespace Go.Proofs.Ytiiogdgnccgehaa
open Go.RowKit
attribute [local go_sem ↓] Go.wp_at_zero Go.wp_at_succ

def zcv : List Value := [.int .i64 0, .int .u64 0, .int .u64 0, .slice none 0 0, .string ⟨#[]⟩, .int .u64 0, .int .u32 0, .int .u64 0, .slice none 0 0]
/-- the answer's variable (nothing yet) and the reader, made behind w -/
structure DS (w W : World) (st : St) : Prop where
  bl : Below w.heap.size w W
  z : Blk 27 W w.heap.size zcv
  r : Rdr W (w.heap.size + 1) st.1 st.2
structure DV (w W : World) (st : St) (g : Nat) (vs : List Value) : Prop where
  c : DS w W st
  v : Blk 27 W g vs
  lt : w.heap.size + 1 < g
section
variable {w W W' : World} {st st' : St} {g : Nat} {vs : List Value}
theorem DS.read (h : DS w W st) (hr : Rdr W' (w.heap.size + 1) st'.1 st'.2) (hg : W.grownBy W' (some (w.heap.size + 1))) : DS w W' st' :=
  ⟨below_grown h.bl h.bl.size hg (by omega), h.z.grown hg (fun e => by injection e; omega), hr⟩
theorem DS.other (h : DS w W st) {row : Option Nat} (hg : W.grownBy W' row) (hr : ∀ k, row = some k → w.heap.size + 1 < k) : DS w W' st :=
  ⟨h.bl.grown hg h.bl.size (fun k hk => by have := hr k hk; omega), h.z.grown hg (fun e => by have := hr _ e; omega), (hg.block _ h.r.lt (fun e => by have := hr _ e.symm; omega)).trans h.r⟩
theorem DS.below (h : DS w W st) (hb : Below W.heap.size W W') : DS w W' st := h.other (grownBy_below hb none) (fun k hk => by cases hk)
theorem DS.num (h : DS w W st) (k : Nat) (hk : k ≤ 8) (hs : st.1.size ≤ 100000) {N : Nat} (hp : numP k st = (N, st')) :
    Calls Try.prog 39 #[.pointer (some ⟨w.heap.size + 1, 0, none⟩), .int .i64 k] W fun e w' => e = .returned (.int .u64 N) ∧ DS w w' st' ∧ W.grownBy w' (some (w.heap.size + 1)) := by
  refine (readNumber (w.heap.size + 1) k st.1 st.2 W h.r hk (by omega)).mono ?_
  rw [show ((st.1, st.2) : St) = st from rfl, hp]
  rintro e w' ⟨rfl, hr, hg⟩
  exact ⟨rfl, h.read hr hg, hg⟩
theorem DS.take (h : DS w W st) (k : Nat) (hk : k ≤ 100000) (hs : st.1.size ≤ 100000) {x : ByteArray} (hp : takeP k st = (x, st')) :
    Calls Try.prog 41 #[.pointer (some ⟨w.heap.size + 1, 0, none⟩), .int .i64 k] W fun e w' => e = .returned (.string x) ∧ DS w w' st' ∧ W.grownBy w' (some (w.heap.size + 1)) := by
  refine (take_any (w.heap.size + 1) k st.1 st.2 W h.r hk (by omega)).mono ?_
  rw [show ((st.1, st.2) : St) = st from rfl, hp]
  rintro e w' ⟨rfl, hr, hg⟩
  exact ⟨rfl, h.read hr hg, hg⟩
theorem DV.read (h : DV w W st g vs) (hc : DS w W' st') (hg : W.grownBy W' (some (w.heap.size + 1))) : DV w W' st' g vs :=
  ⟨hc, h.v.grown hg (fun e => by injection e; have := h.lt; omega), h.lt⟩
theorem DV.set (h : DV w W st g vs) (j : Nat) (x : Value) : DV w (W.setCell ⟨g, j, none⟩ x) st g (vs.set j x) :=
  ⟨h.c.other (grown_set W g j x) (fun k hk => by injection hk; have := h.lt; omega), h.v.set j x, h.lt⟩
theorem DV.below (h : DV w W st g vs) (hb : Below W.heap.size W W') : DV w W' st g vs := ⟨h.c.below hb, h.v.below hb h.v.lt, h.lt⟩
theorem DV.own (h : DV w W st g vs) {row : Option Nat} (hg : W.grownBy W' row) (hr : ∀ k, row = some k → g < k) : DV w W' st g vs :=
  ⟨h.c.other hg (fun k hk => by have := hr k hk; have := h.lt; omega), h.v.grown hg (fun e => by have := hr _ e; omega), h.lt⟩
theorem DV.rest (h : DV w W st g vs) (s : ByteArray) : DV w (W.setCell ⟨w.heap.size + 1, 0, none⟩ (.string s)) (s, st.2) g vs :=
  have hg := grown_set W (w.heap.size + 1) 0 (.string s)
  ⟨h.c.read (h.c.r.set0 s) hg, h.v.grown hg (fun e => by injection e; have := h.lt; omega), h.lt⟩
end
theorem own_off {B n c : Nat} {A : Option Addr} {e : TypeId} {s g : Nat} {xs : List Value} {w : World} (h : Own w B e s A n c xs) (hg : g < B) : blk A ≠ some g := fun e => by have := (Own.lt h _ e).1; omega
def DecOut (t : ByteArray) (w : World) (e : Ending) (w' : World) : Prop := ∃ (A : Option Addr) (k : Nat) (D : Option Addr) (m : Nat), e = .returned (.tuple #[.agg ((decC t).1.vs A k D m).toArray, .int .i64 (decC t).2]) ∧ CmdIn w' w'.heap.size (decC t).1 A k D m ∧ Below w.heap.size w w' ∧ (∀ b, blk A = some b → w.heap.size ≤ b) ∧ (∀ b, blk D = some b → w.heap.size ≤ b)
theorem zero_in (w : World) : CmdIn w w.heap.size zeroC none 0 none 0 := ⟨Rd.nil, Rd.nil, Nat.zero_le _, Nat.zero_le _, Nat.zero_le _, Nat.zero_le _⟩
theorem dec_bad {t : ByteArray} {w w' : World} (h : decC t = (zeroC, 50)) (hb : Below w.heap.size w w') : DecOut t w (.returned (.tuple #[.agg #[.int .i64 0, .int .u64 0, .int .u64 0, .slice none 0 0, .string ⟨#[]⟩, .int .u64 0, .int .u32 0, .int .u64 0, .slice none 0 0], .int .i64 50])) w' :=
  ⟨none, 0, none, 0, by rw [h]; rfl, by rw [h]; exact zero_in w', ⟨hb, ⟨(by intro b h; cases h), (by intro b h; cases h)⟩⟩⟩
theorem dec_fin {t : ByteArray} {w w' : World} {c : Cmd} {A : Option Addr} {k : Nat} {D : Option Addr} {m : Nat} (h : decC t = finC t false c) (he : encC c = (t, 0)) (hin : CmdIn w' w'.heap.size c A k D m) (hb : Below w.heap.size w w') (hA : ∀ b, blk A = some b → w.heap.size ≤ b) (hD : ∀ b, blk D = some b → w.heap.size ≤ b) :
    DecOut t w (.returned (.tuple #[.agg (c.vs A k D m).toArray, .int .i64 0])) w' :=
  ⟨A, k, D, m, by rw [h, finC_ok he], by rw [h, finC_ok he]; exact hin, hb, hA, hD⟩
theorem dec_not {t S : ByteArray} {E : Int} {b : Bool} {c : Cmd} (h : decC t = finC t b c) (he : encC c = (S, E)) (hn : b = true ∨ E ≠ 0 ∨ S ≠ t) : decC t = (zeroC, 50) := by
  rw [h]
  refine if_neg ?_
  rintro ⟨h1, h2⟩
  rw [he] at h2
  injection h2 with h3 h4
  rcases hn with h | h | h
  · rw [h1] at h; cases h
  · exact h h4
  · exact h h3
theorem CmdIn.grown {w w' : World} {c : Cmd} {A : Option Addr} {k : Nat} {D : Option Addr} {m : Nat} (h : CmdIn w w.heap.size c A k D m) (hb : Below w.heap.size w w') : CmdIn w' w'.heap.size c A k D m :=
  ⟨(h.rc.below hb).more hb.size, (h.rf.below hb).more hb.size, h.lc, h.lf, h.lk, h.lm⟩
theorem nil_in (w : World) (B : Nat) (c : Cmd) (h1 : c.cells = []) (h2 : c.files = []) : CmdIn w B c none 0 none 0 :=
  ⟨by rw [h1]; exact Rd.nil, by rw [h2]; exact Rd.nil, by rw [h1]; exact Nat.zero_le _, by rw [h2]; exact Nat.zero_le _, Nat.zero_le _, Nat.zero_le _⟩
theorem files_in {w : World} {B n c : Nat} {D : Option Addr} {F : List Nat} (h : OwnU w B D n c F) (d : Cmd) (h1 : d.cells = []) (h2 : d.files = F) : CmdIn w w.heap.size d none 0 D c :=
  ⟨by rw [h1]; exact Rd.nil, by rw [h2]; exact h.rd, by rw [h1]; exact Nat.zero_le _, by rw [h2, h.len]; exact h.le, Nat.zero_le _, h.cap⟩
theorem cells_in {w : World} {B n c : Nat} {A : Option Addr} {L : List Cl} (h : OwnC w B A n c L) (d : Cmd) (h1 : d.cells = L) (h2 : d.files = []) : CmdIn w w.heap.size d A c none 0 :=
  ⟨by rw [h1]; exact h.rd, by rw [h2]; exact Rd.nil, by rw [h1, h.len]; exact h.le, by rw [h2]; exact Nat.zero_le _, h.cap, Nat.zero_le _⟩
theorem cellDecode_some {s r : ByteArray} {c : Cl} (w : World) (hs : s.size ≤ 100000) (h : cellDecP s = some (c, r)) : Calls Try.prog 40 #[.string s] w fun e w' => e = .returned (.tuple #[.agg #[.string c.row, .string c.col, .int .u64 c.ts, .int .u64 c.seq, .bool c.del, .string c.val], .string r, .int .i64 0]) ∧ Below w.heap.size w w' := by
  refine (cellDecode_any s w hs).mono ?_
  rintro e w' ⟨v, r', E, rfl, hb, h1 | h1⟩
  · rw [h] at h1
    obtain ⟨rfl, h1⟩ := h1
    injection h1 with h1
    injection h1 with h1 h2
    subst h1 h2
    exact ⟨rfl, hb⟩
  · rw [h] at h1
    cases h1.2
theorem cellDecode_none {s : ByteArray} (w : World) (hs : s.size ≤ 100000) (h : cellDecP s = none) : Calls Try.prog 40 #[.string s] w fun e w' => ∃ (c : Cl) (r : ByteArray) (E : Int), e = .returned (.tuple #[.agg #[.string c.row, .string c.col, .int .u64 c.ts, .int .u64 c.seq, .bool c.del, .string c.val], .string r, .int .i64 E]) ∧ Below w.heap.size w w' ∧ E ≠ 0 := by
  refine (cellDecode_any s w hs).mono ?_
  rintro e w' ⟨v, r', E, rfl, hb, h1 | h1⟩
  · rw [h] at h1
    cases h1.2
  · exact ⟨v, r', E, rfl, hb, h1.1⟩
theorem u32_nat (n : Nat) (h : n < 4294967296) : IntKind.u32.wrap (n : Int) = (n : Int) := by
  simp only [IntKind.wrap, IntKind.bits, IntKind.signed]
  have h1 : (n : Int) % 4294967296 = (n : Int) := Int.emod_eq_of_lt (by omega) (by omega)
  simpa using h1
theorem rd_two (w : World) (o : Obj) (cur : Array Value) (e : TypeId) (xs : List Value) (hx : cur.toList = xs) : Rd ((w.alloc o).alloc (.cells cur e)) ((w.alloc o).alloc (.cells cur e)).heap.size (some ⟨w.heap.size + 1, 0, none⟩) xs := by
  have h := heap_alloc_new (w.alloc o) (.cells cur e)
  rw [World.size_alloc] at h
  exact Rd.ofBlock h hx
set_option maxRecDepth 100000 in
set_option maxHeartbeats 16000000 in
theorem decode_any (t : ByteArray) (w : World) (ht : t.size ≤ 100000) : Calls Try.prog 15 #[.string t] w (DecOut t w) := by
  obtain ⟨⟨kd, st1⟩, hp1⟩ : ∃ p, numP 1 (t, false) = p := ⟨_, rfl⟩
  have s1 : st1.1.size ≤ 100000 := by have := numP_rest 1 (t, false); rw [hp1] at this; exact Nat.le_trans this ht
  have hkd : kd < 256 := by have := numP_lt 1 (t, false); rw [hp1] at this; exact this
  have HS1 := Lib.hid s1
  have HP1 := Lib.hid hp1
  have hwk : IntKind.i64.wrap (kd : Int) = (kd : Int) := IntWalk.i64_in _ (by omega)
  have hz0 : DS w ((w.alloc (.cells zcv.toArray 27)).alloc (.cells #[.string t, .bool false] 95)) (t, false) := by
    have hb1 := Blk.new 27 w zcv
    have hb2 := below_al (w.alloc (.cells zcv.toArray 27)) (.cells #[.string t, .bool false] 95)
    refine ⟨(below_al w _).trans (hb2.mono (by rw [World.size_alloc]; omega)), hb1.below hb2 hb1.lt, ?_⟩
    have hb3 := heap_alloc_new (w.alloc (.cells zcv.toArray 27)) (.cells #[.string t, .bool false] 95)
    rw [World.size_alloc] at hb3
    exact hb3
  unfold zcv at hz0
  have HZ0 := Lib.hid hz0
  clear s1 hp1 hz0
  by_cases hk1 : kd = 1
  · have k1 : ((kd : Int) == 1) = true := by simp [hk1]
    have HK1 := Lib.hid hk1
    clear hk1
    obtain ⟨⟨client, st2⟩, hp2⟩ : ∃ p, numP 8 st1 = p := ⟨_, rfl⟩
    obtain ⟨⟨num, st3⟩, hp3⟩ : ∃ p, numP 8 st2 = p := ⟨_, rfl⟩
    obtain ⟨⟨n, ⟨r0, bd⟩⟩, hp4⟩ : ∃ p, numP 1 st3 = p := ⟨_, rfl⟩
    have s2 : st2.1.size ≤ 100000 := by have := numP_rest 8 st1; rw [hp2] at this; exact Nat.le_trans this HS1.out
    have s3 : st3.1.size ≤ 100000 := by have := numP_rest 8 st2; rw [hp3] at this; exact Nat.le_trans this s2
    have s4 : r0.size ≤ 100000 := by have := numP_rest 1 st3; rw [hp4] at this; exact Nat.le_trans this s3
    have hn : n < 256 := by have := numP_lt 1 st3; rw [hp4] at this; exact this
    have HDN := Lib.hid (fun (h : cellsTo n r0 = none) => show decC t = (zeroC, 50) by unfold decC; rw [HP1.out]; simp only; rw [if_pos HK1.out, hp2]; simp only; rw [hp3]; simp only; rw [hp4]; simp only; rw [h])
    have HDC := Lib.hid (fun (L : List Cl) (rs : ByteArray) (h : cellsTo n r0 = some (L, rs)) => show decC t = finC t bd ⟨(kd : Nat), client, num, L, ⟨#[]⟩, 0, 0, 0, []⟩ by unfold decC; rw [HP1.out]; simp only; rw [if_pos HK1.out, hp2]; simp only; rw [hp3]; simp only; rw [hp4]; simp only; rw [h, HK1.out]; rfl)
    have HS2 := Lib.hid s2
    have HS3 := Lib.hid s3
    have HS4 := Lib.hid s4
    have HP2 := Lib.hid hp2
    have HP3 := Lib.hid hp3
    have HP4 := Lib.hid hp4
    clear s2 s3 s4 hp2 hp3 hp4
    go_enter Try.func15, Try.ntmps15
    go_wp2_with (first
      | (go_at_call 39; refine (DS.num HV3.out.c 1 (by omega) HS3.out HP4.out).mono ?_; rintro e w4 ⟨rfl, hz, hg⟩; have HV4 := Lib.hid (HV3.out.read hz hg); clear hz hg HV3)
      | (go_at_call 39; refine (DS.num HV2.out.c 8 (by omega) HS2.out HP3.out).mono ?_; rintro e w3 ⟨rfl, hz, hg⟩; have hv := HV2.out.read hz hg; have c1 := hv.v.cell (j := 1) rfl; have c2 := hv.v.cell (j := 2) rfl; have f1 := hv.v.free 1; have f2 := hv.v.free 2; have HV3 := Lib.hid ((hv.set 1 (.int .u64 client)).set 2 (.int .u64 num)); clear hv; clear hz hg HV2)
      | (go_at_call 39; refine (DS.num HV1.out.c 8 (by omega) HS1.out HP2.out).mono ?_; rintro e w2 ⟨rfl, hz, hg⟩; have HV2 := Lib.hid (HV1.out.read hz hg); clear hz hg HV1)
      | (go_at_call 39; refine (DS.num HZ0.out 1 (by omega) ht HP1.out).mono ?_; rintro e w1 ⟨rfl, hz, -⟩; have HV1 := Lib.hid (show DV w (w1.alloc (.cells #[.int .i64 kd, .int .u64 0, .int .u64 0, .slice none 0 0, .string ⟨#[]⟩, .int .u64 0, .int .u32 0, .int .u64 0, .slice none 0 0] 27)) st1 w1.heap.size [.int .i64 kd, .int .u64 0, .int .u64 0, .slice none 0 0, .string ⟨#[]⟩, .int .u64 0, .int .u32 0, .int .u64 0, .slice none 0 0] from ⟨hz.below (below_al w1 _), Blk.new _ _ _, Rdr.lt hz.r⟩); clear hz HZ0))
    go_loopw [30] (fun v30 wr => ∃ (i c : Nat) (A : Option Addr) (L : List Cl) (r : ByteArray), v30 = .int .u64 (i : Nat) ∧ i ≤ n ∧ cellsTo i r0 = some (L, r) ∧ Hid (DV w wr (r, bd) w1.heap.size [.int .i64 kd, .int .u64 client, .int .u64 num, .slice A i c, .string ⟨#[]⟩, .int .u64 0, .int .u32 0, .int .u64 0, .slice none 0 0]) ∧ Hid (OwnC wr (w1.heap.size + 1) A i c L)) (fun v30 _ => n - (intOf v30).toNat)
    case atStart => exact ⟨0, 0, none, [], r0, rfl, Nat.zero_le _, rfl, HV4, Lib.hid OwnC.nil⟩
    case round =>
      clear HV4
      obtain ⟨i, c, A, L, r, rfl, hi, hcl, HV, HO⟩ := hrel
      rename World => wr
      have hsz := cellsTo_size i r0 L r hcl
      have HRS := Lib.hid (Nat.le_trans hsz.1 HS4.out)
      have HLL := Lib.hid hsz.2
      have HCL := Lib.hid hcl
      have c0 := HV.out.c.r.cells.1
      clear hsz hcl
      by_cases hlt : i < n
      · have e1 : decide ((i : Int) < (n : Int)) = true := decide_eq_true (by omega)
        have hwi : IntKind.u64.wrap ((i : Int) + 1) = ((i + 1 : Nat) : Int) := wrap_nat (i + 1) (by omega)
        cases hd : cellDecP r with
        | none =>
          have HDB := Lib.hid (HDN.out (by have := cellsTo_stop HCL.out hd (n - i - 1); rw [show i + 1 + (n - i - 1) = n by omega] at this; exact this))
          have HD := Lib.hid hd
          clear hd
          go_wp2_with (first
            | (go_at_call 40; refine (cellDecode_none _ HRS.out HD.out).mono ?_; go_loud (rintro e w5 ⟨x, r', E, rfl, hb, hE⟩); go_loud (have hne : (E != 0) = true := by simpa using hE); have HV17 := Lib.hid ((HV.out.below hb).below (below_al w5 (.cells #[.string x.row, .string x.col, .int .u64 x.ts, .int .u64 x.seq, .bool x.del, .string x.val] 75))); clear hb hE)
            | (show wpList _ _ _ ({ dst := none, op := Op.store _ (Operand.tmp 2) _, type := _, pos := _, after := _, guard := _ } :: _) _ _; refine wpList_store_mid rfl 27 (.tmp 2) (.tmp 43) rfl w.heap.size 0 #[.int .i64 0, .int .u64 0, .int .u64 0, .slice none 0 0, .string ⟨#[]⟩, .int .u64 0, .int .u32 0, .int .u64 0, .slice none 0 0] rfl rfl (HV17.out.c.z.there 9 (Nat.le_refl _)) (by kernel_rfl) (by simp [Value.oneCell']) ?_; refine HV17.out.c.z.setW zcv rfl ?_; intro w18 HZ18 HG18))
          (try simp only [Exit.inBlock, Exit.then])
          refine bodyPost_ret (blk_results rfl Try.underlying27 rfl _ _ w.heap.size _ (by kernel_rfl) _ rfl rfl HZ18.out) rfl ?_
          exact dec_bad HDB.out (below_grown HV17.out.c.bl HV17.out.c.bl.size HG18.out (Nat.le_refl _))
        | some xr =>
          obtain ⟨x, r'⟩ := xr
          have HNX := Lib.hid (cellsTo_next HCL.out hd)
          have HD := Lib.hid hd
          clear hd
          go_wp2_with (first
            | (go_at_call 40; refine (cellDecode_some _ HRS.out HD.out).mono ?_; rintro e w5 ⟨rfl, hb⟩; have HV6 := Lib.hid ((HV.out.below hb).below (below_al w5 (.cells #[.string x.row, .string x.col, .int .u64 x.ts, .int .u64 x.seq, .bool x.del, .string x.val] 75))); have HO6 := Lib.hid ((HO.out.below hb).below (below_al w5 (.cells #[.string x.row, .string x.col, .int .u64 x.ts, .int .u64 x.seq, .bool x.del, .string x.val] 75))); have c3 := HV6.out.v.cell (j := 3) rfl; clear hb)
            | (at_builtin; go_loud (refine cells_app rfl _ _ rfl (w1.heap.size + 1) A i c (i + 1) L [x] rfl (HO6.out.below (below_al _ _)) (some ⟨w5.heap.size + 1, 0, none⟩) 1 1 rfl (rd_two w5 _ _ _ (vals [x]) rfl) rfl rfl (by omega) (by rw [World.size_alloc]; have := HV6.out.v.lt; omega) ?_); intro A8 c8 w8 HO8 HG8; go_loud (have hv8 := (HV6.out.below (below_al _ (.cells #[.string x.row, .string x.col, .int .u64 x.ts, .int .u64 x.seq, .bool x.del, .string x.val] 75))).own HG8.out (fun k hk => by have := (Own.lt HO6.out _ hk).1; omega)); go_loud (have f8 := hv8.v.free 3; have g3 := hv8.v.cell (j := 3) rfl; have HV8 := Lib.hid ((hv8.set 3 (.slice A8 (i + 1) c8)).rest r')); go_loud (have HO9 := Lib.hid (show OwnC ((w8.setCell ⟨w1.heap.size, 3, none⟩ (.slice A8 (i + 1) c8)).setCell ⟨w.heap.size + 1, 0, none⟩ (.string r')) (w1.heap.size + 1) A8 (i + 1) c8 (L ++ [x]) from Own.setCell (Own.setCell HO8.out (own_off HO8.out (Nat.lt_succ_self _)) _) (own_off HO8.out (show w.heap.size + 1 < w1.heap.size + 1 by have := HV6.out.lt; omega)) _)); go_loud (have g0 := hv8.c.r.cells.1; have g9 := hv8.c.r.free.1; clear hv8)))
          exact ⟨⟨i + 1, c8, A8, L ++ [x], r', by first | rfl | go_num, by omega, HNX.out, HV8, HO9⟩, by simp [intOf]; omega⟩
      · have e1 : decide ((i : Int) < (n : Int)) = false := decide_eq_false (by omega)
        have hin : i = n := by omega
        subst hin
        have HDD := HDC
        clear HDC
        have HDC := Lib.hid (HDD.out L r HCL.out)
        clear HDD HDN HCL
        obtain ⟨m, hm⟩ : ∃ m, L.length = m := ⟨_, rfl⟩
        have hmn : m = i := by rw [← hm]; exact HLL.out
        subst hmn
        subst hm
        have HIN := Lib.hid (cells_in HO.out ⟨(kd : Nat), client, num, L, ⟨#[]⟩, 0, 0, 0, []⟩ rfl rfl)
        obtain ⟨⟨S, E⟩, hS⟩ : ∃ p, encC ⟨(kd : Nat), client, num, L, ⟨#[]⟩, 0, 0, 0, []⟩ = p := ⟨_, rfl⟩
        have HEN := Lib.hid hS
        clear hS
        cases bd with
        | true =>
          skip
          go_wp2_with (first
            | (show wpList _ _ _ ({ dst := some 89, op := Op.load _ _, type := _, pos := _, after := _, guard := _ } :: _) _ _; refine wpList_load_mid rfl 27 (.tmp 5) rfl w1.heap.size 0 rfl [.int .i64 kd, .int .u64 client, .int .u64 num, .slice A L.length c, .string ⟨#[]⟩, .int .u64 0, .int .u32 0, .int .u64 0, .slice none 0 0] _ HV.out.v.range Try.underlying27 rfl (by kernel_rfl) ?_)
            | (go_at_call 12; refine (encode_any ⟨(kd : Nat), client, num, L, ⟨#[]⟩, 0, 0, 0, []⟩ A c none 0 _ (HIN.out)).mono ?_; rw [HEN.out]; rintro e w17 ⟨rfl, hb⟩; have HB17 := Lib.hid hb; have HV17 := Lib.hid (HV.out.below hb); have c17 := HV17.out.c.r.cells.2; clear hb)
            | (show wpList _ _ _ ({ dst := none, op := Op.store _ (Operand.tmp 2) (Operand.tmp 106), type := _, pos := _, after := _, guard := _ } :: _) _ _; refine wpList_store_mid rfl 27 (.tmp 2) (.tmp 106) rfl w.heap.size 0 #[.int .i64 0, .int .u64 0, .int .u64 0, .slice none 0 0, .string ⟨#[]⟩, .int .u64 0, .int .u32 0, .int .u64 0, .slice none 0 0] rfl rfl (HV17.out.c.z.there 9 (Nat.le_refl _)) (by kernel_rfl) (by simp [Value.oneCell']) ?_; refine HV17.out.c.z.setW zcv rfl ?_; intro w18 HZ18 HG18)
            | (show wpList _ _ _ ({ dst := some 107, op := Op.load _ _, type := _, pos := _, after := _, guard := _ } :: _) _ _; refine wpList_load_mid rfl 27 (.tmp 5) rfl w1.heap.size 0 rfl [.int .i64 kd, .int .u64 client, .int .u64 num, .slice A L.length c, .string ⟨#[]⟩, .int .u64 0, .int .u32 0, .int .u64 0, .slice none 0 0] _ HV17.out.v.range Try.underlying27 rfl (by kernel_rfl) ?_)
            | (show wpList _ _ _ ({ dst := none, op := Op.store _ (Operand.tmp 2) (Operand.tmp 107), type := _, pos := _, after := _, guard := _ } :: _) _ _; refine wpList_store_mid rfl 27 (.tmp 2) (.tmp 107) rfl w.heap.size 0 #[.int .i64 kd, .int .u64 client, .int .u64 num, .slice A L.length c, .string ⟨#[]⟩, .int .u64 0, .int .u32 0, .int .u64 0, .slice none 0 0] rfl rfl (HV17.out.c.z.there 9 (Nat.le_refl _)) (by kernel_rfl) (by simp [Value.oneCell']) ?_; refine HV17.out.c.z.setW [.int .i64 kd, .int .u64 client, .int .u64 num, .slice A L.length c, .string ⟨#[]⟩, .int .u64 0, .int .u32 0, .int .u64 0, .slice none 0 0] rfl ?_; intro w18 HZ18 HG18))
          (try simp only [Exit.inBlock, Exit.then])
          refine bodyPost_ret (blk_results rfl Try.underlying27 rfl _ _ w.heap.size _ (by kernel_rfl) _ rfl rfl HZ18.out) rfl ?_
          exact dec_bad (dec_not HDC.out HEN.out (by simp_all)) (below_grown HV17.out.c.bl HV17.out.c.bl.size HG18.out (Nat.le_refl _))
        | false =>
          by_cases hE : E = 0
          · have hne : (E != 0) = false := by simp [hE]
            by_cases hSt : S = t
            · have HES := Lib.hid (show encC ⟨(kd : Nat), client, num, L, ⟨#[]⟩, 0, 0, 0, []⟩ = (t, 0) by rw [HEN.out, hE, hSt])
              skip
              go_wp2_with (first
                | (show wpList _ _ _ ({ dst := some 89, op := Op.load _ _, type := _, pos := _, after := _, guard := _ } :: _) _ _; refine wpList_load_mid rfl 27 (.tmp 5) rfl w1.heap.size 0 rfl [.int .i64 kd, .int .u64 client, .int .u64 num, .slice A L.length c, .string ⟨#[]⟩, .int .u64 0, .int .u32 0, .int .u64 0, .slice none 0 0] _ HV.out.v.range Try.underlying27 rfl (by kernel_rfl) ?_)
                | (go_at_call 12; refine (encode_any ⟨(kd : Nat), client, num, L, ⟨#[]⟩, 0, 0, 0, []⟩ A c none 0 _ (HIN.out)).mono ?_; rw [HEN.out]; rintro e w17 ⟨rfl, hb⟩; have HB17 := Lib.hid hb; have HV17 := Lib.hid (HV.out.below hb); have c17 := HV17.out.c.r.cells.2; clear hb)
                | (show wpList _ _ _ ({ dst := none, op := Op.store _ (Operand.tmp 2) (Operand.tmp 106), type := _, pos := _, after := _, guard := _ } :: _) _ _; refine wpList_store_mid rfl 27 (.tmp 2) (.tmp 106) rfl w.heap.size 0 #[.int .i64 0, .int .u64 0, .int .u64 0, .slice none 0 0, .string ⟨#[]⟩, .int .u64 0, .int .u32 0, .int .u64 0, .slice none 0 0] rfl rfl (HV17.out.c.z.there 9 (Nat.le_refl _)) (by kernel_rfl) (by simp [Value.oneCell']) ?_; refine HV17.out.c.z.setW zcv rfl ?_; intro w18 HZ18 HG18)
                | (show wpList _ _ _ ({ dst := some 107, op := Op.load _ _, type := _, pos := _, after := _, guard := _ } :: _) _ _; refine wpList_load_mid rfl 27 (.tmp 5) rfl w1.heap.size 0 rfl [.int .i64 kd, .int .u64 client, .int .u64 num, .slice A L.length c, .string ⟨#[]⟩, .int .u64 0, .int .u32 0, .int .u64 0, .slice none 0 0] _ HV17.out.v.range Try.underlying27 rfl (by kernel_rfl) ?_)
                | (show wpList _ _ _ ({ dst := none, op := Op.store _ (Operand.tmp 2) (Operand.tmp 107), type := _, pos := _, after := _, guard := _ } :: _) _ _; refine wpList_store_mid rfl 27 (.tmp 2) (.tmp 107) rfl w.heap.size 0 #[.int .i64 kd, .int .u64 client, .int .u64 num, .slice A L.length c, .string ⟨#[]⟩, .int .u64 0, .int .u32 0, .int .u64 0, .slice none 0 0] rfl rfl (HV17.out.c.z.there 9 (Nat.le_refl _)) (by kernel_rfl) (by simp [Value.oneCell']) ?_; refine HV17.out.c.z.setW [.int .i64 kd, .int .u64 client, .int .u64 num, .slice A L.length c, .string ⟨#[]⟩, .int .u64 0, .int .u32 0, .int .u64 0, .slice none 0 0] rfl ?_; intro w18 HZ18 HG18))
              (try simp only [Exit.inBlock, Exit.then])
              refine bodyPost_ret (blk_results rfl Try.underlying27 rfl _ _ w.heap.size _ (by kernel_rfl) _ rfl rfl HZ18.out) rfl ?_
              exact dec_fin (c := ⟨(kd : Nat), client, num, L, ⟨#[]⟩, 0, 0, 0, []⟩) (A := A) (k := c) (D := none) (m := 0) HDC.out HES.out (cells_in (show OwnC w18 (w1.heap.size + 1) A L.length c L from Own.grown (HO.out.below HB17.out) HG18.out (.inr (own_off HO.out (by have := HV.out.lt; omega)))) _ rfl rfl) (below_grown HV17.out.c.bl HV17.out.c.bl.size HG18.out (Nat.le_refl _)) (by first | (intro b h; cases h; done) | (intro b h; have := (Own.lt HO.out _ h).1; have := HV.out.lt; omega)) (by first | (intro b h; cases h; done) | (intro b h; have := (Own.lt HO.out _ h).1; have := HV.out.lt; omega))
            · have hs1 : (S.toList == t.toList) = false := by rw [beq_eq_false_iff_ne]; exact fun h => hSt (toList_inj h)
              skip
              go_wp2_with (first
                | (show wpList _ _ _ ({ dst := some 89, op := Op.load _ _, type := _, pos := _, after := _, guard := _ } :: _) _ _; refine wpList_load_mid rfl 27 (.tmp 5) rfl w1.heap.size 0 rfl [.int .i64 kd, .int .u64 client, .int .u64 num, .slice A L.length c, .string ⟨#[]⟩, .int .u64 0, .int .u32 0, .int .u64 0, .slice none 0 0] _ HV.out.v.range Try.underlying27 rfl (by kernel_rfl) ?_)
                | (go_at_call 12; refine (encode_any ⟨(kd : Nat), client, num, L, ⟨#[]⟩, 0, 0, 0, []⟩ A c none 0 _ (HIN.out)).mono ?_; rw [HEN.out]; rintro e w17 ⟨rfl, hb⟩; have HB17 := Lib.hid hb; have HV17 := Lib.hid (HV.out.below hb); have c17 := HV17.out.c.r.cells.2; clear hb)
                | (show wpList _ _ _ ({ dst := none, op := Op.store _ (Operand.tmp 2) (Operand.tmp 106), type := _, pos := _, after := _, guard := _ } :: _) _ _; refine wpList_store_mid rfl 27 (.tmp 2) (.tmp 106) rfl w.heap.size 0 #[.int .i64 0, .int .u64 0, .int .u64 0, .slice none 0 0, .string ⟨#[]⟩, .int .u64 0, .int .u32 0, .int .u64 0, .slice none 0 0] rfl rfl (HV17.out.c.z.there 9 (Nat.le_refl _)) (by kernel_rfl) (by simp [Value.oneCell']) ?_; refine HV17.out.c.z.setW zcv rfl ?_; intro w18 HZ18 HG18)
                | (show wpList _ _ _ ({ dst := some 107, op := Op.load _ _, type := _, pos := _, after := _, guard := _ } :: _) _ _; refine wpList_load_mid rfl 27 (.tmp 5) rfl w1.heap.size 0 rfl [.int .i64 kd, .int .u64 client, .int .u64 num, .slice A L.length c, .string ⟨#[]⟩, .int .u64 0, .int .u32 0, .int .u64 0, .slice none 0 0] _ HV17.out.v.range Try.underlying27 rfl (by kernel_rfl) ?_)
                | (show wpList _ _ _ ({ dst := none, op := Op.store _ (Operand.tmp 2) (Operand.tmp 107), type := _, pos := _, after := _, guard := _ } :: _) _ _; refine wpList_store_mid rfl 27 (.tmp 2) (.tmp 107) rfl w.heap.size 0 #[.int .i64 kd, .int .u64 client, .int .u64 num, .slice A L.length c, .string ⟨#[]⟩, .int .u64 0, .int .u32 0, .int .u64 0, .slice none 0 0] rfl rfl (HV17.out.c.z.there 9 (Nat.le_refl _)) (by kernel_rfl) (by simp [Value.oneCell']) ?_; refine HV17.out.c.z.setW [.int .i64 kd, .int .u64 client, .int .u64 num, .slice A L.length c, .string ⟨#[]⟩, .int .u64 0, .int .u32 0, .int .u64 0, .slice none 0 0] rfl ?_; intro w18 HZ18 HG18))
              (try simp only [Exit.inBlock, Exit.then])
              refine bodyPost_ret (blk_results rfl Try.underlying27 rfl _ _ w.heap.size _ (by kernel_rfl) _ rfl rfl HZ18.out) rfl ?_
              exact dec_bad (dec_not HDC.out HEN.out (by simp_all)) (below_grown HV17.out.c.bl HV17.out.c.bl.size HG18.out (Nat.le_refl _))
          · have hne : (E != 0) = true := by simp [hE]
            skip
            go_wp2_with (first
              | (show wpList _ _ _ ({ dst := some 89, op := Op.load _ _, type := _, pos := _, after := _, guard := _ } :: _) _ _; refine wpList_load_mid rfl 27 (.tmp 5) rfl w1.heap.size 0 rfl [.int .i64 kd, .int .u64 client, .int .u64 num, .slice A L.length c, .string ⟨#[]⟩, .int .u64 0, .int .u32 0, .int .u64 0, .slice none 0 0] _ HV.out.v.range Try.underlying27 rfl (by kernel_rfl) ?_)
              | (go_at_call 12; refine (encode_any ⟨(kd : Nat), client, num, L, ⟨#[]⟩, 0, 0, 0, []⟩ A c none 0 _ (HIN.out)).mono ?_; rw [HEN.out]; rintro e w17 ⟨rfl, hb⟩; have HB17 := Lib.hid hb; have HV17 := Lib.hid (HV.out.below hb); have c17 := HV17.out.c.r.cells.2; clear hb)
              | (show wpList _ _ _ ({ dst := none, op := Op.store _ (Operand.tmp 2) (Operand.tmp 106), type := _, pos := _, after := _, guard := _ } :: _) _ _; refine wpList_store_mid rfl 27 (.tmp 2) (.tmp 106) rfl w.heap.size 0 #[.int .i64 0, .int .u64 0, .int .u64 0, .slice none 0 0, .string ⟨#[]⟩, .int .u64 0, .int .u32 0, .int .u64 0, .slice none 0 0] rfl rfl (HV17.out.c.z.there 9 (Nat.le_refl _)) (by kernel_rfl) (by simp [Value.oneCell']) ?_; refine HV17.out.c.z.setW zcv rfl ?_; intro w18 HZ18 HG18)
              | (show wpList _ _ _ ({ dst := some 107, op := Op.load _ _, type := _, pos := _, after := _, guard := _ } :: _) _ _; refine wpList_load_mid rfl 27 (.tmp 5) rfl w1.heap.size 0 rfl [.int .i64 kd, .int .u64 client, .int .u64 num, .slice A L.length c, .string ⟨#[]⟩, .int .u64 0, .int .u32 0, .int .u64 0, .slice none 0 0] _ HV17.out.v.range Try.underlying27 rfl (by kernel_rfl) ?_)
              | (show wpList _ _ _ ({ dst := none, op := Op.store _ (Operand.tmp 2) (Operand.tmp 107), type := _, pos := _, after := _, guard := _ } :: _) _ _; refine wpList_store_mid rfl 27 (.tmp 2) (.tmp 107) rfl w.heap.size 0 #[.int .i64 kd, .int .u64 client, .int .u64 num, .slice A L.length c, .string ⟨#[]⟩, .int .u64 0, .int .u32 0, .int .u64 0, .slice none 0 0] rfl rfl (HV17.out.c.z.there 9 (Nat.le_refl _)) (by kernel_rfl) (by simp [Value.oneCell']) ?_; refine HV17.out.c.z.setW [.int .i64 kd, .int .u64 client, .int .u64 num, .slice A L.length c, .string ⟨#[]⟩, .int .u64 0, .int .u32 0, .int .u64 0, .slice none 0 0] rfl ?_; intro w18 HZ18 HG18))
            (try simp only [Exit.inBlock, Exit.then])
            refine bodyPost_ret (blk_results rfl Try.underlying27 rfl _ _ w.heap.size _ (by kernel_rfl) _ rfl rfl HZ18.out) rfl ?_
            exact dec_bad (dec_not HDC.out HEN.out (by simp_all)) (below_grown HV17.out.c.bl HV17.out.c.bl.size HG18.out (Nat.le_refl _))
  · have k1 : ((kd : Int) == 1) = false := by rw [beq_eq_false_iff_ne]; omega
    by_cases hk2 : kd = 2
    · have k2 : ((kd : Int) == 2) = true := by simp [hk2]
      have HK2 := Lib.hid hk2
      clear hk2
      obtain ⟨⟨n, st2⟩, hp2⟩ : ∃ p, numP 1 st1 = p := ⟨_, rfl⟩
      have s2 : st2.1.size ≤ 100000 := by have := numP_rest 1 st1; rw [hp2] at this; exact Nat.le_trans this HS1.out
      have hn : n < 256 := by have := numP_lt 1 st1; rw [hp2] at this; exact this
      have hwn : IntKind.i64.wrap (n : Int) = (n : Int) := IntWalk.i64_in _ (by omega)
      obtain ⟨⟨row, ⟨rs, bd⟩⟩, hp3⟩ : ∃ p, takeP n st2 = p := ⟨_, rfl⟩
      have HDC := Lib.hid (show decC t = finC t bd ⟨(kd : Nat), 0, 0, [], row, 0, 0, 0, []⟩ by unfold decC; rw [HP1.out]; simp only; rw [if_neg hk1, if_pos HK2.out, hp2]; simp only; rw [hp3, HK2.out]; rfl)
      have HS2 := Lib.hid s2
      have HP2 := Lib.hid hp2
      have HP3 := Lib.hid hp3
      clear s2 hp2 hp3
      obtain ⟨⟨S, E⟩, hS⟩ : ∃ p, encC ⟨(kd : Nat), 0, 0, [], row, 0, 0, 0, []⟩ = p := ⟨_, rfl⟩
      have HEN := Lib.hid hS
      clear hS
      cases bd with
      | true =>
        go_enter Try.func15, Try.ntmps15
        go_wp2_with (first
          | (go_at_call 41; refine (DS.take HV2.out.c n (by omega) HS2.out HP3.out).mono ?_; rintro e w3 ⟨rfl, hz, hg⟩; have hv := HV2.out.read hz hg; have c4 := hv.v.cell (j := 4) rfl; have f4 := hv.v.free 4; have HV := Lib.hid (hv.set 4 (.string row)); clear hz hg hv HV2)
          | (go_at_call 39; refine (DS.num HV1.out.c 1 (by omega) HS1.out HP2.out).mono ?_; rintro e w2 ⟨rfl, hz, hg⟩; have HV2 := Lib.hid (HV1.out.read hz hg); clear hz hg HV1)
          | (go_at_call 39; refine (DS.num HZ0.out 1 (by omega) ht HP1.out).mono ?_; rintro e w1 ⟨rfl, hz, -⟩; have HV1 := Lib.hid (show DV w (w1.alloc (.cells #[.int .i64 kd, .int .u64 0, .int .u64 0, .slice none 0 0, .string ⟨#[]⟩, .int .u64 0, .int .u32 0, .int .u64 0, .slice none 0 0] 27)) st1 w1.heap.size [.int .i64 kd, .int .u64 0, .int .u64 0, .slice none 0 0, .string ⟨#[]⟩, .int .u64 0, .int .u32 0, .int .u64 0, .slice none 0 0] from ⟨hz.below (below_al w1 _), Blk.new _ _ _, Rdr.lt hz.r⟩); clear hz HZ0)
          | (show wpList _ _ _ ({ dst := some 89, op := Op.load _ _, type := _, pos := _, after := _, guard := _ } :: _) _ _; refine wpList_load_mid rfl 27 (.tmp 5) rfl w1.heap.size 0 rfl [.int .i64 kd, .int .u64 0, .int .u64 0, .slice none 0 0, .string row, .int .u64 0, .int .u32 0, .int .u64 0, .slice none 0 0] _ HV.out.v.range Try.underlying27 rfl (by kernel_rfl) ?_))
        have HIN := Lib.hid (fun W : World => nil_in W W.heap.size ⟨(kd : Nat), 0, 0, [], row, 0, 0, 0, []⟩ rfl rfl)
        go_wp2_with (first
          | (show wpList _ _ _ ({ dst := some 89, op := Op.load _ _, type := _, pos := _, after := _, guard := _ } :: _) _ _; refine wpList_load_mid rfl 27 (.tmp 5) rfl w1.heap.size 0 rfl [.int .i64 kd, .int .u64 0, .int .u64 0, .slice none 0 0, .string row, .int .u64 0, .int .u32 0, .int .u64 0, .slice none 0 0] _ HV.out.v.range Try.underlying27 rfl (by kernel_rfl) ?_)
          | (go_at_call 12; refine (encode_any ⟨(kd : Nat), 0, 0, [], row, 0, 0, 0, []⟩ none 0 none 0 _ (HIN.out _)).mono ?_; rw [HEN.out]; rintro e w17 ⟨rfl, hb⟩; have HB17 := Lib.hid hb; have HV17 := Lib.hid (HV.out.below hb); have c17 := HV17.out.c.r.cells.2; clear hb)
          | (show wpList _ _ _ ({ dst := none, op := Op.store _ (Operand.tmp 2) (Operand.tmp 106), type := _, pos := _, after := _, guard := _ } :: _) _ _; refine wpList_store_mid rfl 27 (.tmp 2) (.tmp 106) rfl w.heap.size 0 #[.int .i64 0, .int .u64 0, .int .u64 0, .slice none 0 0, .string ⟨#[]⟩, .int .u64 0, .int .u32 0, .int .u64 0, .slice none 0 0] rfl rfl (HV17.out.c.z.there 9 (Nat.le_refl _)) (by kernel_rfl) (by simp [Value.oneCell']) ?_; refine HV17.out.c.z.setW zcv rfl ?_; intro w18 HZ18 HG18)
          | (show wpList _ _ _ ({ dst := some 107, op := Op.load _ _, type := _, pos := _, after := _, guard := _ } :: _) _ _; refine wpList_load_mid rfl 27 (.tmp 5) rfl w1.heap.size 0 rfl [.int .i64 kd, .int .u64 0, .int .u64 0, .slice none 0 0, .string row, .int .u64 0, .int .u32 0, .int .u64 0, .slice none 0 0] _ HV17.out.v.range Try.underlying27 rfl (by kernel_rfl) ?_)
          | (show wpList _ _ _ ({ dst := none, op := Op.store _ (Operand.tmp 2) (Operand.tmp 107), type := _, pos := _, after := _, guard := _ } :: _) _ _; refine wpList_store_mid rfl 27 (.tmp 2) (.tmp 107) rfl w.heap.size 0 #[.int .i64 kd, .int .u64 0, .int .u64 0, .slice none 0 0, .string row, .int .u64 0, .int .u32 0, .int .u64 0, .slice none 0 0] rfl rfl (HV17.out.c.z.there 9 (Nat.le_refl _)) (by kernel_rfl) (by simp [Value.oneCell']) ?_; refine HV17.out.c.z.setW [.int .i64 kd, .int .u64 0, .int .u64 0, .slice none 0 0, .string row, .int .u64 0, .int .u32 0, .int .u64 0, .slice none 0 0] rfl ?_; intro w18 HZ18 HG18))
        (try simp only [Exit.inBlock, Exit.then])
        refine bodyPost_ret (blk_results rfl Try.underlying27 rfl _ _ w.heap.size _ (by kernel_rfl) _ rfl rfl HZ18.out) rfl ?_
        exact dec_bad (dec_not HDC.out HEN.out (by simp_all)) (below_grown HV17.out.c.bl HV17.out.c.bl.size HG18.out (Nat.le_refl _))
      | false =>
        by_cases hE : E = 0
        · have hne : (E != 0) = false := by simp [hE]
          by_cases hSt : S = t
          · have HES := Lib.hid (show encC ⟨(kd : Nat), 0, 0, [], row, 0, 0, 0, []⟩ = (t, 0) by rw [HEN.out, hE, hSt])
            go_enter Try.func15, Try.ntmps15
            go_wp2_with (first
              | (go_at_call 41; refine (DS.take HV2.out.c n (by omega) HS2.out HP3.out).mono ?_; rintro e w3 ⟨rfl, hz, hg⟩; have hv := HV2.out.read hz hg; have c4 := hv.v.cell (j := 4) rfl; have f4 := hv.v.free 4; have HV := Lib.hid (hv.set 4 (.string row)); clear hz hg hv HV2)
              | (go_at_call 39; refine (DS.num HV1.out.c 1 (by omega) HS1.out HP2.out).mono ?_; rintro e w2 ⟨rfl, hz, hg⟩; have HV2 := Lib.hid (HV1.out.read hz hg); clear hz hg HV1)
              | (go_at_call 39; refine (DS.num HZ0.out 1 (by omega) ht HP1.out).mono ?_; rintro e w1 ⟨rfl, hz, -⟩; have HV1 := Lib.hid (show DV w (w1.alloc (.cells #[.int .i64 kd, .int .u64 0, .int .u64 0, .slice none 0 0, .string ⟨#[]⟩, .int .u64 0, .int .u32 0, .int .u64 0, .slice none 0 0] 27)) st1 w1.heap.size [.int .i64 kd, .int .u64 0, .int .u64 0, .slice none 0 0, .string ⟨#[]⟩, .int .u64 0, .int .u32 0, .int .u64 0, .slice none 0 0] from ⟨hz.below (below_al w1 _), Blk.new _ _ _, Rdr.lt hz.r⟩); clear hz HZ0)
              | (show wpList _ _ _ ({ dst := some 89, op := Op.load _ _, type := _, pos := _, after := _, guard := _ } :: _) _ _; refine wpList_load_mid rfl 27 (.tmp 5) rfl w1.heap.size 0 rfl [.int .i64 kd, .int .u64 0, .int .u64 0, .slice none 0 0, .string row, .int .u64 0, .int .u32 0, .int .u64 0, .slice none 0 0] _ HV.out.v.range Try.underlying27 rfl (by kernel_rfl) ?_))
            have HIN := Lib.hid (fun W : World => nil_in W W.heap.size ⟨(kd : Nat), 0, 0, [], row, 0, 0, 0, []⟩ rfl rfl)
            go_wp2_with (first
              | (show wpList _ _ _ ({ dst := some 89, op := Op.load _ _, type := _, pos := _, after := _, guard := _ } :: _) _ _; refine wpList_load_mid rfl 27 (.tmp 5) rfl w1.heap.size 0 rfl [.int .i64 kd, .int .u64 0, .int .u64 0, .slice none 0 0, .string row, .int .u64 0, .int .u32 0, .int .u64 0, .slice none 0 0] _ HV.out.v.range Try.underlying27 rfl (by kernel_rfl) ?_)
              | (go_at_call 12; refine (encode_any ⟨(kd : Nat), 0, 0, [], row, 0, 0, 0, []⟩ none 0 none 0 _ (HIN.out _)).mono ?_; rw [HEN.out]; rintro e w17 ⟨rfl, hb⟩; have HB17 := Lib.hid hb; have HV17 := Lib.hid (HV.out.below hb); have c17 := HV17.out.c.r.cells.2; clear hb)
              | (show wpList _ _ _ ({ dst := none, op := Op.store _ (Operand.tmp 2) (Operand.tmp 106), type := _, pos := _, after := _, guard := _ } :: _) _ _; refine wpList_store_mid rfl 27 (.tmp 2) (.tmp 106) rfl w.heap.size 0 #[.int .i64 0, .int .u64 0, .int .u64 0, .slice none 0 0, .string ⟨#[]⟩, .int .u64 0, .int .u32 0, .int .u64 0, .slice none 0 0] rfl rfl (HV17.out.c.z.there 9 (Nat.le_refl _)) (by kernel_rfl) (by simp [Value.oneCell']) ?_; refine HV17.out.c.z.setW zcv rfl ?_; intro w18 HZ18 HG18)
              | (show wpList _ _ _ ({ dst := some 107, op := Op.load _ _, type := _, pos := _, after := _, guard := _ } :: _) _ _; refine wpList_load_mid rfl 27 (.tmp 5) rfl w1.heap.size 0 rfl [.int .i64 kd, .int .u64 0, .int .u64 0, .slice none 0 0, .string row, .int .u64 0, .int .u32 0, .int .u64 0, .slice none 0 0] _ HV17.out.v.range Try.underlying27 rfl (by kernel_rfl) ?_)
              | (show wpList _ _ _ ({ dst := none, op := Op.store _ (Operand.tmp 2) (Operand.tmp 107), type := _, pos := _, after := _, guard := _ } :: _) _ _; refine wpList_store_mid rfl 27 (.tmp 2) (.tmp 107) rfl w.heap.size 0 #[.int .i64 kd, .int .u64 0, .int .u64 0, .slice none 0 0, .string row, .int .u64 0, .int .u32 0, .int .u64 0, .slice none 0 0] rfl rfl (HV17.out.c.z.there 9 (Nat.le_refl _)) (by kernel_rfl) (by simp [Value.oneCell']) ?_; refine HV17.out.c.z.setW [.int .i64 kd, .int .u64 0, .int .u64 0, .slice none 0 0, .string row, .int .u64 0, .int .u32 0, .int .u64 0, .slice none 0 0] rfl ?_; intro w18 HZ18 HG18))
            (try simp only [Exit.inBlock, Exit.then])
            refine bodyPost_ret (blk_results rfl Try.underlying27 rfl _ _ w.heap.size _ (by kernel_rfl) _ rfl rfl HZ18.out) rfl ?_
            exact dec_fin (c := ⟨(kd : Nat), 0, 0, [], row, 0, 0, 0, []⟩) (A := none) (k := 0) (D := none) (m := 0) HDC.out HES.out (nil_in _ _ _ rfl rfl) (below_grown HV17.out.c.bl HV17.out.c.bl.size HG18.out (Nat.le_refl _)) (by first | (intro b h; cases h; done) | (intro b h; have := (Own.lt HO.out _ h).1; have := HV.out.lt; omega)) (by first | (intro b h; cases h; done) | (intro b h; have := (Own.lt HO.out _ h).1; have := HV.out.lt; omega))
          · have hs1 : (S.toList == t.toList) = false := by rw [beq_eq_false_iff_ne]; exact fun h => hSt (toList_inj h)
            go_enter Try.func15, Try.ntmps15
            go_wp2_with (first
              | (go_at_call 41; refine (DS.take HV2.out.c n (by omega) HS2.out HP3.out).mono ?_; rintro e w3 ⟨rfl, hz, hg⟩; have hv := HV2.out.read hz hg; have c4 := hv.v.cell (j := 4) rfl; have f4 := hv.v.free 4; have HV := Lib.hid (hv.set 4 (.string row)); clear hz hg hv HV2)
              | (go_at_call 39; refine (DS.num HV1.out.c 1 (by omega) HS1.out HP2.out).mono ?_; rintro e w2 ⟨rfl, hz, hg⟩; have HV2 := Lib.hid (HV1.out.read hz hg); clear hz hg HV1)
              | (go_at_call 39; refine (DS.num HZ0.out 1 (by omega) ht HP1.out).mono ?_; rintro e w1 ⟨rfl, hz, -⟩; have HV1 := Lib.hid (show DV w (w1.alloc (.cells #[.int .i64 kd, .int .u64 0, .int .u64 0, .slice none 0 0, .string ⟨#[]⟩, .int .u64 0, .int .u32 0, .int .u64 0, .slice none 0 0] 27)) st1 w1.heap.size [.int .i64 kd, .int .u64 0, .int .u64 0, .slice none 0 0, .string ⟨#[]⟩, .int .u64 0, .int .u32 0, .int .u64 0, .slice none 0 0] from ⟨hz.below (below_al w1 _), Blk.new _ _ _, Rdr.lt hz.r⟩); clear hz HZ0)
              | (show wpList _ _ _ ({ dst := some 89, op := Op.load _ _, type := _, pos := _, after := _, guard := _ } :: _) _ _; refine wpList_load_mid rfl 27 (.tmp 5) rfl w1.heap.size 0 rfl [.int .i64 kd, .int .u64 0, .int .u64 0, .slice none 0 0, .string row, .int .u64 0, .int .u32 0, .int .u64 0, .slice none 0 0] _ HV.out.v.range Try.underlying27 rfl (by kernel_rfl) ?_))
            have HIN := Lib.hid (fun W : World => nil_in W W.heap.size ⟨(kd : Nat), 0, 0, [], row, 0, 0, 0, []⟩ rfl rfl)
            go_wp2_with (first
              | (show wpList _ _ _ ({ dst := some 89, op := Op.load _ _, type := _, pos := _, after := _, guard := _ } :: _) _ _; refine wpList_load_mid rfl 27 (.tmp 5) rfl w1.heap.size 0 rfl [.int .i64 kd, .int .u64 0, .int .u64 0, .slice none 0 0, .string row, .int .u64 0, .int .u32 0, .int .u64 0, .slice none 0 0] _ HV.out.v.range Try.underlying27 rfl (by kernel_rfl) ?_)
              | (go_at_call 12; refine (encode_any ⟨(kd : Nat), 0, 0, [], row, 0, 0, 0, []⟩ none 0 none 0 _ (HIN.out _)).mono ?_; rw [HEN.out]; rintro e w17 ⟨rfl, hb⟩; have HB17 := Lib.hid hb; have HV17 := Lib.hid (HV.out.below hb); have c17 := HV17.out.c.r.cells.2; clear hb)
              | (show wpList _ _ _ ({ dst := none, op := Op.store _ (Operand.tmp 2) (Operand.tmp 106), type := _, pos := _, after := _, guard := _ } :: _) _ _; refine wpList_store_mid rfl 27 (.tmp 2) (.tmp 106) rfl w.heap.size 0 #[.int .i64 0, .int .u64 0, .int .u64 0, .slice none 0 0, .string ⟨#[]⟩, .int .u64 0, .int .u32 0, .int .u64 0, .slice none 0 0] rfl rfl (HV17.out.c.z.there 9 (Nat.le_refl _)) (by kernel_rfl) (by simp [Value.oneCell']) ?_; refine HV17.out.c.z.setW zcv rfl ?_; intro w18 HZ18 HG18)
              | (show wpList _ _ _ ({ dst := some 107, op := Op.load _ _, type := _, pos := _, after := _, guard := _ } :: _) _ _; refine wpList_load_mid rfl 27 (.tmp 5) rfl w1.heap.size 0 rfl [.int .i64 kd, .int .u64 0, .int .u64 0, .slice none 0 0, .string row, .int .u64 0, .int .u32 0, .int .u64 0, .slice none 0 0] _ HV17.out.v.range Try.underlying27 rfl (by kernel_rfl) ?_)
              | (show wpList _ _ _ ({ dst := none, op := Op.store _ (Operand.tmp 2) (Operand.tmp 107), type := _, pos := _, after := _, guard := _ } :: _) _ _; refine wpList_store_mid rfl 27 (.tmp 2) (.tmp 107) rfl w.heap.size 0 #[.int .i64 kd, .int .u64 0, .int .u64 0, .slice none 0 0, .string row, .int .u64 0, .int .u32 0, .int .u64 0, .slice none 0 0] rfl rfl (HV17.out.c.z.there 9 (Nat.le_refl _)) (by kernel_rfl) (by simp [Value.oneCell']) ?_; refine HV17.out.c.z.setW [.int .i64 kd, .int .u64 0, .int .u64 0, .slice none 0 0, .string row, .int .u64 0, .int .u32 0, .int .u64 0, .slice none 0 0] rfl ?_; intro w18 HZ18 HG18))
            (try simp only [Exit.inBlock, Exit.then])
            refine bodyPost_ret (blk_results rfl Try.underlying27 rfl _ _ w.heap.size _ (by kernel_rfl) _ rfl rfl HZ18.out) rfl ?_
            exact dec_bad (dec_not HDC.out HEN.out (by simp_all)) (below_grown HV17.out.c.bl HV17.out.c.bl.size HG18.out (Nat.le_refl _))
        · have hne : (E != 0) = true := by simp [hE]
          go_enter Try.func15, Try.ntmps15
          go_wp2_with (first
            | (go_at_call 41; refine (DS.take HV2.out.c n (by omega) HS2.out HP3.out).mono ?_; rintro e w3 ⟨rfl, hz, hg⟩; have hv := HV2.out.read hz hg; have c4 := hv.v.cell (j := 4) rfl; have f4 := hv.v.free 4; have HV := Lib.hid (hv.set 4 (.string row)); clear hz hg hv HV2)
            | (go_at_call 39; refine (DS.num HV1.out.c 1 (by omega) HS1.out HP2.out).mono ?_; rintro e w2 ⟨rfl, hz, hg⟩; have HV2 := Lib.hid (HV1.out.read hz hg); clear hz hg HV1)
            | (go_at_call 39; refine (DS.num HZ0.out 1 (by omega) ht HP1.out).mono ?_; rintro e w1 ⟨rfl, hz, -⟩; have HV1 := Lib.hid (show DV w (w1.alloc (.cells #[.int .i64 kd, .int .u64 0, .int .u64 0, .slice none 0 0, .string ⟨#[]⟩, .int .u64 0, .int .u32 0, .int .u64 0, .slice none 0 0] 27)) st1 w1.heap.size [.int .i64 kd, .int .u64 0, .int .u64 0, .slice none 0 0, .string ⟨#[]⟩, .int .u64 0, .int .u32 0, .int .u64 0, .slice none 0 0] from ⟨hz.below (below_al w1 _), Blk.new _ _ _, Rdr.lt hz.r⟩); clear hz HZ0)
            | (show wpList _ _ _ ({ dst := some 89, op := Op.load _ _, type := _, pos := _, after := _, guard := _ } :: _) _ _; refine wpList_load_mid rfl 27 (.tmp 5) rfl w1.heap.size 0 rfl [.int .i64 kd, .int .u64 0, .int .u64 0, .slice none 0 0, .string row, .int .u64 0, .int .u32 0, .int .u64 0, .slice none 0 0] _ HV.out.v.range Try.underlying27 rfl (by kernel_rfl) ?_))
          have HIN := Lib.hid (fun W : World => nil_in W W.heap.size ⟨(kd : Nat), 0, 0, [], row, 0, 0, 0, []⟩ rfl rfl)
          go_wp2_with (first
            | (show wpList _ _ _ ({ dst := some 89, op := Op.load _ _, type := _, pos := _, after := _, guard := _ } :: _) _ _; refine wpList_load_mid rfl 27 (.tmp 5) rfl w1.heap.size 0 rfl [.int .i64 kd, .int .u64 0, .int .u64 0, .slice none 0 0, .string row, .int .u64 0, .int .u32 0, .int .u64 0, .slice none 0 0] _ HV.out.v.range Try.underlying27 rfl (by kernel_rfl) ?_)
            | (go_at_call 12; refine (encode_any ⟨(kd : Nat), 0, 0, [], row, 0, 0, 0, []⟩ none 0 none 0 _ (HIN.out _)).mono ?_; rw [HEN.out]; rintro e w17 ⟨rfl, hb⟩; have HB17 := Lib.hid hb; have HV17 := Lib.hid (HV.out.below hb); have c17 := HV17.out.c.r.cells.2; clear hb)
            | (show wpList _ _ _ ({ dst := none, op := Op.store _ (Operand.tmp 2) (Operand.tmp 106), type := _, pos := _, after := _, guard := _ } :: _) _ _; refine wpList_store_mid rfl 27 (.tmp 2) (.tmp 106) rfl w.heap.size 0 #[.int .i64 0, .int .u64 0, .int .u64 0, .slice none 0 0, .string ⟨#[]⟩, .int .u64 0, .int .u32 0, .int .u64 0, .slice none 0 0] rfl rfl (HV17.out.c.z.there 9 (Nat.le_refl _)) (by kernel_rfl) (by simp [Value.oneCell']) ?_; refine HV17.out.c.z.setW zcv rfl ?_; intro w18 HZ18 HG18)
            | (show wpList _ _ _ ({ dst := some 107, op := Op.load _ _, type := _, pos := _, after := _, guard := _ } :: _) _ _; refine wpList_load_mid rfl 27 (.tmp 5) rfl w1.heap.size 0 rfl [.int .i64 kd, .int .u64 0, .int .u64 0, .slice none 0 0, .string row, .int .u64 0, .int .u32 0, .int .u64 0, .slice none 0 0] _ HV17.out.v.range Try.underlying27 rfl (by kernel_rfl) ?_)
            | (show wpList _ _ _ ({ dst := none, op := Op.store _ (Operand.tmp 2) (Operand.tmp 107), type := _, pos := _, after := _, guard := _ } :: _) _ _; refine wpList_store_mid rfl 27 (.tmp 2) (.tmp 107) rfl w.heap.size 0 #[.int .i64 kd, .int .u64 0, .int .u64 0, .slice none 0 0, .string row, .int .u64 0, .int .u32 0, .int .u64 0, .slice none 0 0] rfl rfl (HV17.out.c.z.there 9 (Nat.le_refl _)) (by kernel_rfl) (by simp [Value.oneCell']) ?_; refine HV17.out.c.z.setW [.int .i64 kd, .int .u64 0, .int .u64 0, .slice none 0 0, .string row, .int .u64 0, .int .u32 0, .int .u64 0, .slice none 0 0] rfl ?_; intro w18 HZ18 HG18))
          (try simp only [Exit.inBlock, Exit.then])
          refine bodyPost_ret (blk_results rfl Try.underlying27 rfl _ _ w.heap.size _ (by kernel_rfl) _ rfl rfl HZ18.out) rfl ?_
          exact dec_bad (dec_not HDC.out HEN.out (by simp_all)) (below_grown HV17.out.c.bl HV17.out.c.bl.size HG18.out (Nat.le_refl _))
    · have k2 : ((kd : Int) == 2) = false := by rw [beq_eq_false_iff_ne]; omega
      by_cases hk3 : kd = 3
      · have k3 : ((kd : Int) == 3) = true := by simp [hk3]
        have HK3 := Lib.hid hk3
        clear hk3
        obtain ⟨⟨job, st2⟩, hp2⟩ : ∃ p, numP 8 st1 = p := ⟨_, rfl⟩
        obtain ⟨⟨sum, st3⟩, hp3⟩ : ∃ p, numP 4 st2 = p := ⟨_, rfl⟩
        obtain ⟨⟨epoch, st4⟩, hp4⟩ : ∃ p, numP 8 st3 = p := ⟨_, rfl⟩
        obtain ⟨⟨n, st5⟩, hp5⟩ : ∃ p, numP 1 st4 = p := ⟨_, rfl⟩
        have s2 : st2.1.size ≤ 100000 := by have := numP_rest 8 st1; rw [hp2] at this; exact Nat.le_trans this HS1.out
        have s3 : st3.1.size ≤ 100000 := by have := numP_rest 4 st2; rw [hp3] at this; exact Nat.le_trans this s2
        have s4 : st4.1.size ≤ 100000 := by have := numP_rest 8 st3; rw [hp4] at this; exact Nat.le_trans this s3
        have s5 : st5.1.size ≤ 100000 := by have := numP_rest 1 st4; rw [hp5] at this; exact Nat.le_trans this s4
        have hn : n < 256 := by have := numP_lt 1 st4; rw [hp5] at this; exact this
        have hsm : sum < 256 ^ 4 := by have := numP_lt 4 st2; rw [hp3] at this; exact this
        have hws : IntKind.u32.wrap (sum : Int) = (sum : Int) := u32_nat sum (by omega)
        have HDC := Lib.hid (fun (F : List Nat) (rs : ByteArray) (bd : Bool) (h : numsTo n st5 = (F, (rs, bd))) => show decC t = finC t bd ⟨(kd : Nat), 0, 0, [], ⟨#[]⟩, job, sum, epoch, F⟩ by unfold decC; rw [HP1.out]; simp only; rw [if_neg hk1, if_neg hk2, if_pos HK3.out, hp2]; simp only; rw [hp3]; simp only; rw [hp4]; simp only; rw [hp5]; simp only; rw [h, HK3.out]; rfl)
        have HS2 := Lib.hid s2
        have HS3 := Lib.hid s3
        have HS4 := Lib.hid s4
        have HS5 := Lib.hid s5
        have HP2 := Lib.hid hp2
        have HP3 := Lib.hid hp3
        have HP4 := Lib.hid hp4
        have HP5 := Lib.hid hp5
        clear s2 s3 s4 s5 hp2 hp3 hp4 hp5 hsm
        go_enter Try.func15, Try.ntmps15
        go_wp2_with (first
          | (go_at_call 39; refine (DS.num HV4.out.c 1 (by omega) HS4.out HP5.out).mono ?_; rintro e w5 ⟨rfl, hz, hg⟩; have HV5 := Lib.hid (HV4.out.read hz hg); clear hz hg HV4)
          | (go_at_call 39; refine (DS.num HV3.out.c 8 (by omega) HS3.out HP4.out).mono ?_; rintro e w4 ⟨rfl, hz, hg⟩; have hv := HV3.out.read hz hg; have c5 := hv.v.cell (j := 5) rfl; have c6 := hv.v.cell (j := 6) rfl; have c7 := hv.v.cell (j := 7) rfl; have f5 := hv.v.free 5; have f6 := hv.v.free 6; have f7 := hv.v.free 7; have HV4 := Lib.hid (((hv.set 5 (.int .u64 job)).set 6 (.int .u32 sum)).set 7 (.int .u64 epoch)); clear hv; clear hz hg HV3)
          | (go_at_call 39; refine (DS.num HV2.out.c 4 (by omega) HS2.out HP3.out).mono ?_; rintro e w3 ⟨rfl, hz, hg⟩; have HV3 := Lib.hid (HV2.out.read hz hg); clear hz hg HV2)
          | (go_at_call 39; refine (DS.num HV1.out.c 8 (by omega) HS1.out HP2.out).mono ?_; rintro e w2 ⟨rfl, hz, hg⟩; have HV2 := Lib.hid (HV1.out.read hz hg); clear hz hg HV1)
          | (go_at_call 39; refine (DS.num HZ0.out 1 (by omega) ht HP1.out).mono ?_; rintro e w1 ⟨rfl, hz, -⟩; have HV1 := Lib.hid (show DV w (w1.alloc (.cells #[.int .i64 kd, .int .u64 0, .int .u64 0, .slice none 0 0, .string ⟨#[]⟩, .int .u64 0, .int .u32 0, .int .u64 0, .slice none 0 0] 27)) st1 w1.heap.size [.int .i64 kd, .int .u64 0, .int .u64 0, .slice none 0 0, .string ⟨#[]⟩, .int .u64 0, .int .u32 0, .int .u64 0, .slice none 0 0] from ⟨hz.below (below_al w1 _), Blk.new _ _ _, Rdr.lt hz.r⟩); clear hz HZ0))
        go_loopw [77] (fun v77 wr => ∃ (i c : Nat) (D : Option Addr), v77 = .int .u64 (i : Nat) ∧ i ≤ n ∧ Hid (DV w wr (numsTo i st5).2 w1.heap.size [.int .i64 kd, .int .u64 0, .int .u64 0, .slice none 0 0, .string ⟨#[]⟩, .int .u64 job, .int .u32 sum, .int .u64 epoch, .slice D i c]) ∧ Hid (OwnU wr (w1.heap.size + 1) D i c (numsTo i st5).1)) (fun v77 _ => n - (intOf v77).toNat)
        case atStart => exact ⟨0, 0, none, rfl, Nat.zero_le _, HV5, Lib.hid OwnU.nil⟩
        case round =>
          clear HV5
          obtain ⟨i, c, D, rfl, hi, HV, HO⟩ := hrel
          rename World => wr
          by_cases hlt : i < n
          · have e1 : decide ((i : Int) < (n : Int)) = true := decide_eq_true (by omega)
            have hwi : IntKind.u64.wrap ((i : Int) + 1) = ((i + 1 : Nat) : Int) := wrap_nat (i + 1) (by omega)
            have hsk := Nat.le_trans (numsTo_rest st5 i) HS5.out
            have HFN := Lib.hid (fun (x : Nat) (s : St) (h : numP 4 (numsTo i st5).2 = (x, s)) => numsTo_next st5 i h)
            obtain ⟨⟨L, sk⟩, hfk⟩ : ∃ p, numsTo i st5 = p := ⟨_, rfl⟩
            rw [hfk] at HV HO hsk HFN
            simp only at HV HO hsk HFN
            obtain ⟨⟨x, a6⟩, h6⟩ : ∃ p, numP 4 sk = p := ⟨_, rfl⟩
            have hx : x < 256 ^ 4 := by have := numP_lt 4 sk; rw [h6] at this; exact this
            have hwx : IntKind.u32.wrap (x : Int) = (x : Int) := u32_nat x (by omega)
            have HFP := Lib.hid (HFN.out _ _ h6)
            have HN6 := Lib.hid h6
            have HSK := Lib.hid hsk
            have HV2 := Lib.hid (HV.out.below ((Below.refl _ wr).drew))
            have HO2 := Lib.hid (HO.out.below ((Below.refl _ wr).drew))
            have hcell : ∀ W, Hid (Blk 27 W w1.heap.size [.int .i64 kd, .int .u64 0, .int .u64 0, .slice none 0 0, .string ⟨#[]⟩, .int .u64 job, .int .u32 sum, .int .u64 epoch, .slice D i c]) → W.cell? ⟨w1.heap.size, 8, none⟩ = some (.slice D i c) := fun W h => h.out.cell (j := 8) rfl
            have HC := hcell _ (Lib.hid HV2.out.v)
            clear hfk h6 hsk HFN HV HO hx
            go_wp2
            refine region_wz (fun W => W.cell? ⟨w1.heap.size, 8, none⟩ = some (.slice D i c)) (some 8) (by kernel_rfl) ?_
            apply WZ.take (i := 0) (some 79) rfl rfl (by kernel_rfl) (by kernel_rfl) (by kernel_rfl) (calm_panic _) (by kernel_rfl)
            case hy => (refine .inl ⟨by kernel_rfl, fun W hC => ?_⟩; (try dsimp only at hC); go_simp; rfl)
            case hC => exact HC
            case ha => (simp only [Act.put, List.setIfInBounds_toArray, List.set_cons_zero, List.set_cons_succ]; rfl)
            apply WZ.take (i := 1) (some 80) rfl rfl (by kernel_rfl) (by kernel_rfl) (by kernel_rfl) (calm_panic _) (by kernel_rfl)
            case hy => (refine .inl ⟨by kernel_rfl, fun W hC => ?_⟩; (try dsimp only at hC); go_simp; rfl)
            case hC => exact HC
            case ha => (simp only [Act.put, List.setIfInBounds_toArray, List.set_cons_zero, List.set_cons_succ]; rfl)
            apply WZ.take (i := 2) (some 81) rfl rfl (by kernel_rfl) (by kernel_rfl) (by kernel_rfl) (calm_panic _) (by kernel_rfl)
            case hy => (refine .inl ⟨by kernel_rfl, fun W hC => ?_⟩; (try dsimp only at hC); go_simp; rfl)
            case hC => exact HC
            case ha => (simp only [Act.put, List.setIfInBounds_toArray, List.set_cons_zero, List.set_cons_succ]; rfl)
            -- 3
            refine WZ.one (i := 3) rfl (by kernel_rfl) ?_
            conv => arg 4; arg 1; whnf
            go_wp2_with (go_at_call 39; refine (DS.num HV2.out.c 4 (by omega) HSK.out HN6.out).mono ?_; rintro e w6 ⟨rfl, hz, hg⟩; have HV6 := Lib.hid (HV2.out.read hz hg); have HO6 := Lib.hid (show OwnU w6 (w1.heap.size + 1) D i c L from Own.grown HO2.out hg (.inr (own_off HO2.out (by have := HV2.out.lt; omega)))); clear hz hg)
            clear HC
            have HC := hcell _ (Lib.hid HV6.out.v)
            refine ⟨HC, ?_⟩
            apply WZ.take (i := 4) (some 83) rfl rfl (by kernel_rfl) (by kernel_rfl) (by kernel_rfl) (calm_panic _) (by kernel_rfl)
            case hy => (refine .inl ⟨by kernel_rfl, fun W hC => ?_⟩; (try dsimp only at hC); go_simp; rfl)
            case hC => exact HC
            case ha => (simp only [Act.put, List.setIfInBounds_toArray, List.set_cons_zero, List.set_cons_succ]; rfl)
            -- 5
            refine WZ.one (i := 5) rfl (by kernel_rfl) ?_
            conv => arg 4; arg 1; whnf
            go_wp2_with fail
            have HV7 := Lib.hid (HV6.out.below (below_al w6 (.cells #[.int .u32 x] 24)))
            have HO7 := Lib.hid (HO6.out.below (below_al w6 (.cells #[.int .u32 x] 24)))
            have HR7 := Lib.hid ((Rd.ofBlock (heap_alloc_new w6 (.cells #[.int .u32 x] 24)) (xs := u32s [x]) rfl))
            clear HC
            have HC := hcell _ (Lib.hid HV7.out.v)
            refine ⟨HC, ?_⟩
            -- 6
            refine WZ.one (i := 6) rfl (by kernel_rfl) ?_
            conv => arg 4; arg 1; whnf
            go_wp2_with (at_builtin; go_loud (refine nums_app rfl _ _ rfl (w1.heap.size + 1) D i c (i + 1) L [x] rfl HO7.out (some ⟨w6.heap.size, 0, none⟩) 1 1 rfl HR7.out rfl rfl (by omega) HV7.out.v.lt ?_); intro D8 c8 w8 HO8 HG8)
            have hv8 := HV7.out.own HG8.out (fun k hk => by have := (Own.lt HO7.out _ hk).1; omega)
            have f8 := hv8.v.free 8
            have HV8 := Lib.hid (hv8.set 8 (.slice D8 (i + 1) c8))
            have HO9 := Lib.hid (show OwnU (w8.setCell ⟨w1.heap.size, 8, none⟩ (.slice D8 (i + 1) c8)) (w1.heap.size + 1) D8 (i + 1) c8 (L ++ [x]) from Own.setCell HO8.out (own_off HO8.out (Nat.lt_succ_self _)) _)
            clear HC
            have HC := hcell _ (Lib.hid hv8.v)
            clear hv8
            refine ⟨HC, ?_⟩
            apply WZ.take (i := 7) (some 86) rfl rfl (by kernel_rfl) (by kernel_rfl) (by kernel_rfl) (calm_panic _) (by kernel_rfl)
            case hy => (refine .inl ⟨by kernel_rfl, fun W hC => ?_⟩; (try dsimp only at hC); go_simp; rfl)
            case hC => exact HC
            case ha => (simp only [Act.put, List.setIfInBounds_toArray, List.set_cons_zero, List.set_cons_succ]; rfl)
            -- 8
            refine WZ.last (i := 8) rfl (by kernel_rfl) (by kernel_rfl) ?_
            conv => arg 4; arg 1; whnf
            go_wp2
            refine WZ.done (by kernel_rfl) ?_ _
            simp only [Calm, Exit.then]
            go_wp2
            exact ⟨⟨i + 1, c8, D8, by first | rfl | go_num, by omega, by rw [HFP.out]; exact HV8, by rw [HFP.out]; exact HO9⟩, by simp [intOf]; omega⟩
          · have e1 : decide ((i : Int) < (n : Int)) = false := decide_eq_false (by omega)
            have hin : i = n := by omega
            rw [hin] at HV HO
            have hln := numsTo_len st5 n
            obtain ⟨⟨F, ⟨rs, bd⟩⟩, hf⟩ : ∃ p, numsTo n st5 = p := ⟨_, rfl⟩
            rw [hf] at HV HO hln
            simp only at HV HO hln
            have HDD := HDC
            clear HDC
            have HDC := Lib.hid (HDD.out F rs bd hf)
            clear HDD hf hin
            have HLN := Lib.hid hln
            clear hln
            obtain ⟨m, hm⟩ : ∃ m, F.length = m := ⟨_, rfl⟩
            have hmn : m = n := by rw [← hm]; exact HLN.out
            subst hmn
            subst hm
            have HIN := Lib.hid (files_in HO.out ⟨(kd : Nat), 0, 0, [], ⟨#[]⟩, job, sum, epoch, F⟩ rfl rfl)
            obtain ⟨⟨S, E⟩, hS⟩ : ∃ p, encC ⟨(kd : Nat), 0, 0, [], ⟨#[]⟩, job, sum, epoch, F⟩ = p := ⟨_, rfl⟩
            have HEN := Lib.hid hS
            clear hS
            cases bd with
            | true =>
              skip
              go_wp2_with (first
                | (show wpList _ _ _ ({ dst := some 89, op := Op.load _ _, type := _, pos := _, after := _, guard := _ } :: _) _ _; refine wpList_load_mid rfl 27 (.tmp 5) rfl w1.heap.size 0 rfl [.int .i64 kd, .int .u64 0, .int .u64 0, .slice none 0 0, .string ⟨#[]⟩, .int .u64 job, .int .u32 sum, .int .u64 epoch, .slice D F.length c] _ HV.out.v.range Try.underlying27 rfl (by kernel_rfl) ?_)
                | (go_at_call 12; refine (encode_any ⟨(kd : Nat), 0, 0, [], ⟨#[]⟩, job, sum, epoch, F⟩ none 0 D c _ (HIN.out)).mono ?_; rw [HEN.out]; rintro e w17 ⟨rfl, hb⟩; have HB17 := Lib.hid hb; have HV17 := Lib.hid (HV.out.below hb); have c17 := HV17.out.c.r.cells.2; clear hb)
                | (show wpList _ _ _ ({ dst := none, op := Op.store _ (Operand.tmp 2) (Operand.tmp 106), type := _, pos := _, after := _, guard := _ } :: _) _ _; refine wpList_store_mid rfl 27 (.tmp 2) (.tmp 106) rfl w.heap.size 0 #[.int .i64 0, .int .u64 0, .int .u64 0, .slice none 0 0, .string ⟨#[]⟩, .int .u64 0, .int .u32 0, .int .u64 0, .slice none 0 0] rfl rfl (HV17.out.c.z.there 9 (Nat.le_refl _)) (by kernel_rfl) (by simp [Value.oneCell']) ?_; refine HV17.out.c.z.setW zcv rfl ?_; intro w18 HZ18 HG18)
                | (show wpList _ _ _ ({ dst := some 107, op := Op.load _ _, type := _, pos := _, after := _, guard := _ } :: _) _ _; refine wpList_load_mid rfl 27 (.tmp 5) rfl w1.heap.size 0 rfl [.int .i64 kd, .int .u64 0, .int .u64 0, .slice none 0 0, .string ⟨#[]⟩, .int .u64 job, .int .u32 sum, .int .u64 epoch, .slice D F.length c] _ HV17.out.v.range Try.underlying27 rfl (by kernel_rfl) ?_)
                | (show wpList _ _ _ ({ dst := none, op := Op.store _ (Operand.tmp 2) (Operand.tmp 107), type := _, pos := _, after := _, guard := _ } :: _) _ _; refine wpList_store_mid rfl 27 (.tmp 2) (.tmp 107) rfl w.heap.size 0 #[.int .i64 kd, .int .u64 0, .int .u64 0, .slice none 0 0, .string ⟨#[]⟩, .int .u64 job, .int .u32 sum, .int .u64 epoch, .slice D F.length c] rfl rfl (HV17.out.c.z.there 9 (Nat.le_refl _)) (by kernel_rfl) (by simp [Value.oneCell']) ?_; refine HV17.out.c.z.setW [.int .i64 kd, .int .u64 0, .int .u64 0, .slice none 0 0, .string ⟨#[]⟩, .int .u64 job, .int .u32 sum, .int .u64 epoch, .slice D F.length c] rfl ?_; intro w18 HZ18 HG18))
              (try simp only [Exit.inBlock, Exit.then])
              refine bodyPost_ret (blk_results rfl Try.underlying27 rfl _ _ w.heap.size _ (by kernel_rfl) _ rfl rfl HZ18.out) rfl ?_
              exact dec_bad (dec_not HDC.out HEN.out (by simp_all)) (below_grown HV17.out.c.bl HV17.out.c.bl.size HG18.out (Nat.le_refl _))
            | false =>
              by_cases hE : E = 0
              · have hne : (E != 0) = false := by simp [hE]
                by_cases hSt : S = t
                · have HES := Lib.hid (show encC ⟨(kd : Nat), 0, 0, [], ⟨#[]⟩, job, sum, epoch, F⟩ = (t, 0) by rw [HEN.out, hE, hSt])
                  skip
                  go_wp2_with (first
                    | (show wpList _ _ _ ({ dst := some 89, op := Op.load _ _, type := _, pos := _, after := _, guard := _ } :: _) _ _; refine wpList_load_mid rfl 27 (.tmp 5) rfl w1.heap.size 0 rfl [.int .i64 kd, .int .u64 0, .int .u64 0, .slice none 0 0, .string ⟨#[]⟩, .int .u64 job, .int .u32 sum, .int .u64 epoch, .slice D F.length c] _ HV.out.v.range Try.underlying27 rfl (by kernel_rfl) ?_)
                    | (go_at_call 12; refine (encode_any ⟨(kd : Nat), 0, 0, [], ⟨#[]⟩, job, sum, epoch, F⟩ none 0 D c _ (HIN.out)).mono ?_; rw [HEN.out]; rintro e w17 ⟨rfl, hb⟩; have HB17 := Lib.hid hb; have HV17 := Lib.hid (HV.out.below hb); have c17 := HV17.out.c.r.cells.2; clear hb)
                    | (show wpList _ _ _ ({ dst := none, op := Op.store _ (Operand.tmp 2) (Operand.tmp 106), type := _, pos := _, after := _, guard := _ } :: _) _ _; refine wpList_store_mid rfl 27 (.tmp 2) (.tmp 106) rfl w.heap.size 0 #[.int .i64 0, .int .u64 0, .int .u64 0, .slice none 0 0, .string ⟨#[]⟩, .int .u64 0, .int .u32 0, .int .u64 0, .slice none 0 0] rfl rfl (HV17.out.c.z.there 9 (Nat.le_refl _)) (by kernel_rfl) (by simp [Value.oneCell']) ?_; refine HV17.out.c.z.setW zcv rfl ?_; intro w18 HZ18 HG18)
                    | (show wpList _ _ _ ({ dst := some 107, op := Op.load _ _, type := _, pos := _, after := _, guard := _ } :: _) _ _; refine wpList_load_mid rfl 27 (.tmp 5) rfl w1.heap.size 0 rfl [.int .i64 kd, .int .u64 0, .int .u64 0, .slice none 0 0, .string ⟨#[]⟩, .int .u64 job, .int .u32 sum, .int .u64 epoch, .slice D F.length c] _ HV17.out.v.range Try.underlying27 rfl (by kernel_rfl) ?_)
                    | (show wpList _ _ _ ({ dst := none, op := Op.store _ (Operand.tmp 2) (Operand.tmp 107), type := _, pos := _, after := _, guard := _ } :: _) _ _; refine wpList_store_mid rfl 27 (.tmp 2) (.tmp 107) rfl w.heap.size 0 #[.int .i64 kd, .int .u64 0, .int .u64 0, .slice none 0 0, .string ⟨#[]⟩, .int .u64 job, .int .u32 sum, .int .u64 epoch, .slice D F.length c] rfl rfl (HV17.out.c.z.there 9 (Nat.le_refl _)) (by kernel_rfl) (by simp [Value.oneCell']) ?_; refine HV17.out.c.z.setW [.int .i64 kd, .int .u64 0, .int .u64 0, .slice none 0 0, .string ⟨#[]⟩, .int .u64 job, .int .u32 sum, .int .u64 epoch, .slice D F.length c] rfl ?_; intro w18 HZ18 HG18))
                  (try simp only [Exit.inBlock, Exit.then])
                  refine bodyPost_ret (blk_results rfl Try.underlying27 rfl _ _ w.heap.size _ (by kernel_rfl) _ rfl rfl HZ18.out) rfl ?_
                  exact dec_fin (c := ⟨(kd : Nat), 0, 0, [], ⟨#[]⟩, job, sum, epoch, F⟩) (A := none) (k := 0) (D := D) (m := c) HDC.out HES.out (files_in (show OwnU w18 (w1.heap.size + 1) D F.length c F from Own.grown (HO.out.below HB17.out) HG18.out (.inr (own_off HO.out (by have := HV.out.lt; omega)))) _ rfl rfl) (below_grown HV17.out.c.bl HV17.out.c.bl.size HG18.out (Nat.le_refl _)) (by first | (intro b h; cases h; done) | (intro b h; have := (Own.lt HO.out _ h).1; have := HV.out.lt; omega)) (by first | (intro b h; cases h; done) | (intro b h; have := (Own.lt HO.out _ h).1; have := HV.out.lt; omega))
                · have hs1 : (S.toList == t.toList) = false := by rw [beq_eq_false_iff_ne]; exact fun h => hSt (toList_inj h)
                  skip
                  go_wp2_with (first
                    | (show wpList _ _ _ ({ dst := some 89, op := Op.load _ _, type := _, pos := _, after := _, guard := _ } :: _) _ _; refine wpList_load_mid rfl 27 (.tmp 5) rfl w1.heap.size 0 rfl [.int .i64 kd, .int .u64 0, .int .u64 0, .slice none 0 0, .string ⟨#[]⟩, .int .u64 job, .int .u32 sum, .int .u64 epoch, .slice D F.length c] _ HV.out.v.range Try.underlying27 rfl (by kernel_rfl) ?_)
                    | (go_at_call 12; refine (encode_any ⟨(kd : Nat), 0, 0, [], ⟨#[]⟩, job, sum, epoch, F⟩ none 0 D c _ (HIN.out)).mono ?_; rw [HEN.out]; rintro e w17 ⟨rfl, hb⟩; have HB17 := Lib.hid hb; have HV17 := Lib.hid (HV.out.below hb); have c17 := HV17.out.c.r.cells.2; clear hb)
                    | (show wpList _ _ _ ({ dst := none, op := Op.store _ (Operand.tmp 2) (Operand.tmp 106), type := _, pos := _, after := _, guard := _ } :: _) _ _; refine wpList_store_mid rfl 27 (.tmp 2) (.tmp 106) rfl w.heap.size 0 #[.int .i64 0, .int .u64 0, .int .u64 0, .slice none 0 0, .string ⟨#[]⟩, .int .u64 0, .int .u32 0, .int .u64 0, .slice none 0 0] rfl rfl (HV17.out.c.z.there 9 (Nat.le_refl _)) (by kernel_rfl) (by simp [Value.oneCell']) ?_; refine HV17.out.c.z.setW zcv rfl ?_; intro w18 HZ18 HG18)
                    | (show wpList _ _ _ ({ dst := some 107, op := Op.load _ _, type := _, pos := _, after := _, guard := _ } :: _) _ _; refine wpList_load_mid rfl 27 (.tmp 5) rfl w1.heap.size 0 rfl [.int .i64 kd, .int .u64 0, .int .u64 0, .slice none 0 0, .string ⟨#[]⟩, .int .u64 job, .int .u32 sum, .int .u64 epoch, .slice D F.length c] _ HV17.out.v.range Try.underlying27 rfl (by kernel_rfl) ?_)
                    | (show wpList _ _ _ ({ dst := none, op := Op.store _ (Operand.tmp 2) (Operand.tmp 107), type := _, pos := _, after := _, guard := _ } :: _) _ _; refine wpList_store_mid rfl 27 (.tmp 2) (.tmp 107) rfl w.heap.size 0 #[.int .i64 kd, .int .u64 0, .int .u64 0, .slice none 0 0, .string ⟨#[]⟩, .int .u64 job, .int .u32 sum, .int .u64 epoch, .slice D F.length c] rfl rfl (HV17.out.c.z.there 9 (Nat.le_refl _)) (by kernel_rfl) (by simp [Value.oneCell']) ?_; refine HV17.out.c.z.setW [.int .i64 kd, .int .u64 0, .int .u64 0, .slice none 0 0, .string ⟨#[]⟩, .int .u64 job, .int .u32 sum, .int .u64 epoch, .slice D F.length c] rfl ?_; intro w18 HZ18 HG18))
                  (try simp only [Exit.inBlock, Exit.then])
                  refine bodyPost_ret (blk_results rfl Try.underlying27 rfl _ _ w.heap.size _ (by kernel_rfl) _ rfl rfl HZ18.out) rfl ?_
                  exact dec_bad (dec_not HDC.out HEN.out (by simp_all)) (below_grown HV17.out.c.bl HV17.out.c.bl.size HG18.out (Nat.le_refl _))
              · have hne : (E != 0) = true := by simp [hE]
                skip
                go_wp2_with (first
                  | (show wpList _ _ _ ({ dst := some 89, op := Op.load _ _, type := _, pos := _, after := _, guard := _ } :: _) _ _; refine wpList_load_mid rfl 27 (.tmp 5) rfl w1.heap.size 0 rfl [.int .i64 kd, .int .u64 0, .int .u64 0, .slice none 0 0, .string ⟨#[]⟩, .int .u64 job, .int .u32 sum, .int .u64 epoch, .slice D F.length c] _ HV.out.v.range Try.underlying27 rfl (by kernel_rfl) ?_)
                  | (go_at_call 12; refine (encode_any ⟨(kd : Nat), 0, 0, [], ⟨#[]⟩, job, sum, epoch, F⟩ none 0 D c _ (HIN.out)).mono ?_; rw [HEN.out]; rintro e w17 ⟨rfl, hb⟩; have HB17 := Lib.hid hb; have HV17 := Lib.hid (HV.out.below hb); have c17 := HV17.out.c.r.cells.2; clear hb)
                  | (show wpList _ _ _ ({ dst := none, op := Op.store _ (Operand.tmp 2) (Operand.tmp 106), type := _, pos := _, after := _, guard := _ } :: _) _ _; refine wpList_store_mid rfl 27 (.tmp 2) (.tmp 106) rfl w.heap.size 0 #[.int .i64 0, .int .u64 0, .int .u64 0, .slice none 0 0, .string ⟨#[]⟩, .int .u64 0, .int .u32 0, .int .u64 0, .slice none 0 0] rfl rfl (HV17.out.c.z.there 9 (Nat.le_refl _)) (by kernel_rfl) (by simp [Value.oneCell']) ?_; refine HV17.out.c.z.setW zcv rfl ?_; intro w18 HZ18 HG18)
                  | (show wpList _ _ _ ({ dst := some 107, op := Op.load _ _, type := _, pos := _, after := _, guard := _ } :: _) _ _; refine wpList_load_mid rfl 27 (.tmp 5) rfl w1.heap.size 0 rfl [.int .i64 kd, .int .u64 0, .int .u64 0, .slice none 0 0, .string ⟨#[]⟩, .int .u64 job, .int .u32 sum, .int .u64 epoch, .slice D F.length c] _ HV17.out.v.range Try.underlying27 rfl (by kernel_rfl) ?_)
                  | (show wpList _ _ _ ({ dst := none, op := Op.store _ (Operand.tmp 2) (Operand.tmp 107), type := _, pos := _, after := _, guard := _ } :: _) _ _; refine wpList_store_mid rfl 27 (.tmp 2) (.tmp 107) rfl w.heap.size 0 #[.int .i64 kd, .int .u64 0, .int .u64 0, .slice none 0 0, .string ⟨#[]⟩, .int .u64 job, .int .u32 sum, .int .u64 epoch, .slice D F.length c] rfl rfl (HV17.out.c.z.there 9 (Nat.le_refl _)) (by kernel_rfl) (by simp [Value.oneCell']) ?_; refine HV17.out.c.z.setW [.int .i64 kd, .int .u64 0, .int .u64 0, .slice none 0 0, .string ⟨#[]⟩, .int .u64 job, .int .u32 sum, .int .u64 epoch, .slice D F.length c] rfl ?_; intro w18 HZ18 HG18))
                (try simp only [Exit.inBlock, Exit.then])
                refine bodyPost_ret (blk_results rfl Try.underlying27 rfl _ _ w.heap.size _ (by kernel_rfl) _ rfl rfl HZ18.out) rfl ?_
                exact dec_bad (dec_not HDC.out HEN.out (by simp_all)) (below_grown HV17.out.c.bl HV17.out.c.bl.size HG18.out (Nat.le_refl _))
      · have k3 : ((kd : Int) == 3) = false := by rw [beq_eq_false_iff_ne]; omega
        obtain ⟨rs, bd⟩ := st1
        have HDC := Lib.hid (show decC t = finC t bd ⟨(kd : Nat), 0, 0, [], ⟨#[]⟩, 0, 0, 0, []⟩ by unfold decC; rw [HP1.out]; simp only; rw [if_neg hk1, if_neg hk2, if_neg hk3])
        obtain ⟨⟨S, E⟩, hS⟩ : ∃ p, encC ⟨(kd : Nat), 0, 0, [], ⟨#[]⟩, 0, 0, 0, []⟩ = p := ⟨_, rfl⟩
        have HEN := Lib.hid hS
        clear hS
        cases bd with
        | true =>
          go_enter Try.func15, Try.ntmps15
          go_wp2_with (go_at_call 39; refine (DS.num HZ0.out 1 (by omega) ht HP1.out).mono ?_; rintro e w1 ⟨rfl, hz, -⟩; have HV := Lib.hid (show DV w (w1.alloc (.cells #[.int .i64 kd, .int .u64 0, .int .u64 0, .slice none 0 0, .string ⟨#[]⟩, .int .u64 0, .int .u32 0, .int .u64 0, .slice none 0 0] 27)) (rs, _) w1.heap.size [.int .i64 kd, .int .u64 0, .int .u64 0, .slice none 0 0, .string ⟨#[]⟩, .int .u64 0, .int .u32 0, .int .u64 0, .slice none 0 0] from ⟨hz.below (below_al w1 _), Blk.new _ _ _, Rdr.lt hz.r⟩); clear hz HZ0)
          have HIN := Lib.hid (fun W : World => nil_in W W.heap.size ⟨(kd : Nat), 0, 0, [], ⟨#[]⟩, 0, 0, 0, []⟩ rfl rfl)
          go_wp2_with (first
            | (show wpList _ _ _ ({ dst := some 89, op := Op.load _ _, type := _, pos := _, after := _, guard := _ } :: _) _ _; refine wpList_load_mid rfl 27 (.tmp 5) rfl w1.heap.size 0 rfl [.int .i64 kd, .int .u64 0, .int .u64 0, .slice none 0 0, .string ⟨#[]⟩, .int .u64 0, .int .u32 0, .int .u64 0, .slice none 0 0] _ HV.out.v.range Try.underlying27 rfl (by kernel_rfl) ?_)
            | (go_at_call 12; refine (encode_any ⟨(kd : Nat), 0, 0, [], ⟨#[]⟩, 0, 0, 0, []⟩ none 0 none 0 _ (HIN.out _)).mono ?_; rw [HEN.out]; rintro e w17 ⟨rfl, hb⟩; have HB17 := Lib.hid hb; have HV17 := Lib.hid (HV.out.below hb); have c17 := HV17.out.c.r.cells.2; clear hb)
            | (show wpList _ _ _ ({ dst := none, op := Op.store _ (Operand.tmp 2) (Operand.tmp 106), type := _, pos := _, after := _, guard := _ } :: _) _ _; refine wpList_store_mid rfl 27 (.tmp 2) (.tmp 106) rfl w.heap.size 0 #[.int .i64 0, .int .u64 0, .int .u64 0, .slice none 0 0, .string ⟨#[]⟩, .int .u64 0, .int .u32 0, .int .u64 0, .slice none 0 0] rfl rfl (HV17.out.c.z.there 9 (Nat.le_refl _)) (by kernel_rfl) (by simp [Value.oneCell']) ?_; refine HV17.out.c.z.setW zcv rfl ?_; intro w18 HZ18 HG18)
            | (show wpList _ _ _ ({ dst := some 107, op := Op.load _ _, type := _, pos := _, after := _, guard := _ } :: _) _ _; refine wpList_load_mid rfl 27 (.tmp 5) rfl w1.heap.size 0 rfl [.int .i64 kd, .int .u64 0, .int .u64 0, .slice none 0 0, .string ⟨#[]⟩, .int .u64 0, .int .u32 0, .int .u64 0, .slice none 0 0] _ HV17.out.v.range Try.underlying27 rfl (by kernel_rfl) ?_)
            | (show wpList _ _ _ ({ dst := none, op := Op.store _ (Operand.tmp 2) (Operand.tmp 107), type := _, pos := _, after := _, guard := _ } :: _) _ _; refine wpList_store_mid rfl 27 (.tmp 2) (.tmp 107) rfl w.heap.size 0 #[.int .i64 kd, .int .u64 0, .int .u64 0, .slice none 0 0, .string ⟨#[]⟩, .int .u64 0, .int .u32 0, .int .u64 0, .slice none 0 0] rfl rfl (HV17.out.c.z.there 9 (Nat.le_refl _)) (by kernel_rfl) (by simp [Value.oneCell']) ?_; refine HV17.out.c.z.setW [.int .i64 kd, .int .u64 0, .int .u64 0, .slice none 0 0, .string ⟨#[]⟩, .int .u64 0, .int .u32 0, .int .u64 0, .slice none 0 0] rfl ?_; intro w18 HZ18 HG18))
          (try simp only [Exit.inBlock, Exit.then])
          refine bodyPost_ret (blk_results rfl Try.underlying27 rfl _ _ w.heap.size _ (by kernel_rfl) _ rfl rfl HZ18.out) rfl ?_
          exact dec_bad (dec_not HDC.out HEN.out (by simp_all)) (below_grown HV17.out.c.bl HV17.out.c.bl.size HG18.out (Nat.le_refl _))
        | false =>
          by_cases hE : E = 0
          · have hne : (E != 0) = false := by simp [hE]
            by_cases hSt : S = t
            · have HES := Lib.hid (show encC ⟨(kd : Nat), 0, 0, [], ⟨#[]⟩, 0, 0, 0, []⟩ = (t, 0) by rw [HEN.out, hE, hSt])
              go_enter Try.func15, Try.ntmps15
              go_wp2_with (go_at_call 39; refine (DS.num HZ0.out 1 (by omega) ht HP1.out).mono ?_; rintro e w1 ⟨rfl, hz, -⟩; have HV := Lib.hid (show DV w (w1.alloc (.cells #[.int .i64 kd, .int .u64 0, .int .u64 0, .slice none 0 0, .string ⟨#[]⟩, .int .u64 0, .int .u32 0, .int .u64 0, .slice none 0 0] 27)) (rs, _) w1.heap.size [.int .i64 kd, .int .u64 0, .int .u64 0, .slice none 0 0, .string ⟨#[]⟩, .int .u64 0, .int .u32 0, .int .u64 0, .slice none 0 0] from ⟨hz.below (below_al w1 _), Blk.new _ _ _, Rdr.lt hz.r⟩); clear hz HZ0)
              have HIN := Lib.hid (fun W : World => nil_in W W.heap.size ⟨(kd : Nat), 0, 0, [], ⟨#[]⟩, 0, 0, 0, []⟩ rfl rfl)
              go_wp2_with (first
                | (show wpList _ _ _ ({ dst := some 89, op := Op.load _ _, type := _, pos := _, after := _, guard := _ } :: _) _ _; refine wpList_load_mid rfl 27 (.tmp 5) rfl w1.heap.size 0 rfl [.int .i64 kd, .int .u64 0, .int .u64 0, .slice none 0 0, .string ⟨#[]⟩, .int .u64 0, .int .u32 0, .int .u64 0, .slice none 0 0] _ HV.out.v.range Try.underlying27 rfl (by kernel_rfl) ?_)
                | (go_at_call 12; refine (encode_any ⟨(kd : Nat), 0, 0, [], ⟨#[]⟩, 0, 0, 0, []⟩ none 0 none 0 _ (HIN.out _)).mono ?_; rw [HEN.out]; rintro e w17 ⟨rfl, hb⟩; have HB17 := Lib.hid hb; have HV17 := Lib.hid (HV.out.below hb); have c17 := HV17.out.c.r.cells.2; clear hb)
                | (show wpList _ _ _ ({ dst := none, op := Op.store _ (Operand.tmp 2) (Operand.tmp 106), type := _, pos := _, after := _, guard := _ } :: _) _ _; refine wpList_store_mid rfl 27 (.tmp 2) (.tmp 106) rfl w.heap.size 0 #[.int .i64 0, .int .u64 0, .int .u64 0, .slice none 0 0, .string ⟨#[]⟩, .int .u64 0, .int .u32 0, .int .u64 0, .slice none 0 0] rfl rfl (HV17.out.c.z.there 9 (Nat.le_refl _)) (by kernel_rfl) (by simp [Value.oneCell']) ?_; refine HV17.out.c.z.setW zcv rfl ?_; intro w18 HZ18 HG18)
                | (show wpList _ _ _ ({ dst := some 107, op := Op.load _ _, type := _, pos := _, after := _, guard := _ } :: _) _ _; refine wpList_load_mid rfl 27 (.tmp 5) rfl w1.heap.size 0 rfl [.int .i64 kd, .int .u64 0, .int .u64 0, .slice none 0 0, .string ⟨#[]⟩, .int .u64 0, .int .u32 0, .int .u64 0, .slice none 0 0] _ HV17.out.v.range Try.underlying27 rfl (by kernel_rfl) ?_)
                | (show wpList _ _ _ ({ dst := none, op := Op.store _ (Operand.tmp 2) (Operand.tmp 107), type := _, pos := _, after := _, guard := _ } :: _) _ _; refine wpList_store_mid rfl 27 (.tmp 2) (.tmp 107) rfl w.heap.size 0 #[.int .i64 kd, .int .u64 0, .int .u64 0, .slice none 0 0, .string ⟨#[]⟩, .int .u64 0, .int .u32 0, .int .u64 0, .slice none 0 0] rfl rfl (HV17.out.c.z.there 9 (Nat.le_refl _)) (by kernel_rfl) (by simp [Value.oneCell']) ?_; refine HV17.out.c.z.setW [.int .i64 kd, .int .u64 0, .int .u64 0, .slice none 0 0, .string ⟨#[]⟩, .int .u64 0, .int .u32 0, .int .u64 0, .slice none 0 0] rfl ?_; intro w18 HZ18 HG18))
              (try simp only [Exit.inBlock, Exit.then])
              refine bodyPost_ret (blk_results rfl Try.underlying27 rfl _ _ w.heap.size _ (by kernel_rfl) _ rfl rfl HZ18.out) rfl ?_
              exact dec_fin (c := ⟨(kd : Nat), 0, 0, [], ⟨#[]⟩, 0, 0, 0, []⟩) (A := none) (k := 0) (D := none) (m := 0) HDC.out HES.out (nil_in _ _ _ rfl rfl) (below_grown HV17.out.c.bl HV17.out.c.bl.size HG18.out (Nat.le_refl _)) (by first | (intro b h; cases h; done) | (intro b h; have := (Own.lt HO.out _ h).1; have := HV.out.lt; omega)) (by first | (intro b h; cases h; done) | (intro b h; have := (Own.lt HO.out _ h).1; have := HV.out.lt; omega))
            · have hs1 : (S.toList == t.toList) = false := by rw [beq_eq_false_iff_ne]; exact fun h => hSt (toList_inj h)
              go_enter Try.func15, Try.ntmps15
              go_wp2_with (go_at_call 39; refine (DS.num HZ0.out 1 (by omega) ht HP1.out).mono ?_; rintro e w1 ⟨rfl, hz, -⟩; have HV := Lib.hid (show DV w (w1.alloc (.cells #[.int .i64 kd, .int .u64 0, .int .u64 0, .slice none 0 0, .string ⟨#[]⟩, .int .u64 0, .int .u32 0, .int .u64 0, .slice none 0 0] 27)) (rs, _) w1.heap.size [.int .i64 kd, .int .u64 0, .int .u64 0, .slice none 0 0, .string ⟨#[]⟩, .int .u64 0, .int .u32 0, .int .u64 0, .slice none 0 0] from ⟨hz.below (below_al w1 _), Blk.new _ _ _, Rdr.lt hz.r⟩); clear hz HZ0)
              have HIN := Lib.hid (fun W : World => nil_in W W.heap.size ⟨(kd : Nat), 0, 0, [], ⟨#[]⟩, 0, 0, 0, []⟩ rfl rfl)
              go_wp2_with (first
                | (show wpList _ _ _ ({ dst := some 89, op := Op.load _ _, type := _, pos := _, after := _, guard := _ } :: _) _ _; refine wpList_load_mid rfl 27 (.tmp 5) rfl w1.heap.size 0 rfl [.int .i64 kd, .int .u64 0, .int .u64 0, .slice none 0 0, .string ⟨#[]⟩, .int .u64 0, .int .u32 0, .int .u64 0, .slice none 0 0] _ HV.out.v.range Try.underlying27 rfl (by kernel_rfl) ?_)
                | (go_at_call 12; refine (encode_any ⟨(kd : Nat), 0, 0, [], ⟨#[]⟩, 0, 0, 0, []⟩ none 0 none 0 _ (HIN.out _)).mono ?_; rw [HEN.out]; rintro e w17 ⟨rfl, hb⟩; have HB17 := Lib.hid hb; have HV17 := Lib.hid (HV.out.below hb); have c17 := HV17.out.c.r.cells.2; clear hb)
                | (show wpList _ _ _ ({ dst := none, op := Op.store _ (Operand.tmp 2) (Operand.tmp 106), type := _, pos := _, after := _, guard := _ } :: _) _ _; refine wpList_store_mid rfl 27 (.tmp 2) (.tmp 106) rfl w.heap.size 0 #[.int .i64 0, .int .u64 0, .int .u64 0, .slice none 0 0, .string ⟨#[]⟩, .int .u64 0, .int .u32 0, .int .u64 0, .slice none 0 0] rfl rfl (HV17.out.c.z.there 9 (Nat.le_refl _)) (by kernel_rfl) (by simp [Value.oneCell']) ?_; refine HV17.out.c.z.setW zcv rfl ?_; intro w18 HZ18 HG18)
                | (show wpList _ _ _ ({ dst := some 107, op := Op.load _ _, type := _, pos := _, after := _, guard := _ } :: _) _ _; refine wpList_load_mid rfl 27 (.tmp 5) rfl w1.heap.size 0 rfl [.int .i64 kd, .int .u64 0, .int .u64 0, .slice none 0 0, .string ⟨#[]⟩, .int .u64 0, .int .u32 0, .int .u64 0, .slice none 0 0] _ HV17.out.v.range Try.underlying27 rfl (by kernel_rfl) ?_)
                | (show wpList _ _ _ ({ dst := none, op := Op.store _ (Operand.tmp 2) (Operand.tmp 107), type := _, pos := _, after := _, guard := _ } :: _) _ _; refine wpList_store_mid rfl 27 (.tmp 2) (.tmp 107) rfl w.heap.size 0 #[.int .i64 kd, .int .u64 0, .int .u64 0, .slice none 0 0, .string ⟨#[]⟩, .int .u64 0, .int .u32 0, .int .u64 0, .slice none 0 0] rfl rfl (HV17.out.c.z.there 9 (Nat.le_refl _)) (by kernel_rfl) (by simp [Value.oneCell']) ?_; refine HV17.out.c.z.setW [.int .i64 kd, .int .u64 0, .int .u64 0, .slice none 0 0, .string ⟨#[]⟩, .int .u64 0, .int .u32 0, .int .u64 0, .slice none 0 0] rfl ?_; intro w18 HZ18 HG18))
              (try simp only [Exit.inBlock, Exit.then])
              refine bodyPost_ret (blk_results rfl Try.underlying27 rfl _ _ w.heap.size _ (by kernel_rfl) _ rfl rfl HZ18.out) rfl ?_
              exact dec_bad (dec_not HDC.out HEN.out (by simp_all)) (below_grown HV17.out.c.bl HV17.out.c.bl.size HG18.out (Nat.le_refl _))
          · have hne : (E != 0) = true := by simp [hE]
            go_enter Try.func15, Try.ntmps15
            go_wp2_with (go_at_call 39; refine (DS.num HZ0.out 1 (by omega) ht HP1.out).mono ?_; rintro e w1 ⟨rfl, hz, -⟩; have HV := Lib.hid (show DV w (w1.alloc (.cells #[.int .i64 kd, .int .u64 0, .int .u64 0, .slice none 0 0, .string ⟨#[]⟩, .int .u64 0, .int .u32 0, .int .u64 0, .slice none 0 0] 27)) (rs, _) w1.heap.size [.int .i64 kd, .int .u64 0, .int .u64 0, .slice none 0 0, .string ⟨#[]⟩, .int .u64 0, .int .u32 0, .int .u64 0, .slice none 0 0] from ⟨hz.below (below_al w1 _), Blk.new _ _ _, Rdr.lt hz.r⟩); clear hz HZ0)
            have HIN := Lib.hid (fun W : World => nil_in W W.heap.size ⟨(kd : Nat), 0, 0, [], ⟨#[]⟩, 0, 0, 0, []⟩ rfl rfl)
            go_wp2_with (first
              | (show wpList _ _ _ ({ dst := some 89, op := Op.load _ _, type := _, pos := _, after := _, guard := _ } :: _) _ _; refine wpList_load_mid rfl 27 (.tmp 5) rfl w1.heap.size 0 rfl [.int .i64 kd, .int .u64 0, .int .u64 0, .slice none 0 0, .string ⟨#[]⟩, .int .u64 0, .int .u32 0, .int .u64 0, .slice none 0 0] _ HV.out.v.range Try.underlying27 rfl (by kernel_rfl) ?_)
              | (go_at_call 12; refine (encode_any ⟨(kd : Nat), 0, 0, [], ⟨#[]⟩, 0, 0, 0, []⟩ none 0 none 0 _ (HIN.out _)).mono ?_; rw [HEN.out]; rintro e w17 ⟨rfl, hb⟩; have HB17 := Lib.hid hb; have HV17 := Lib.hid (HV.out.below hb); have c17 := HV17.out.c.r.cells.2; clear hb)
              | (show wpList _ _ _ ({ dst := none, op := Op.store _ (Operand.tmp 2) (Operand.tmp 106), type := _, pos := _, after := _, guard := _ } :: _) _ _; refine wpList_store_mid rfl 27 (.tmp 2) (.tmp 106) rfl w.heap.size 0 #[.int .i64 0, .int .u64 0, .int .u64 0, .slice none 0 0, .string ⟨#[]⟩, .int .u64 0, .int .u32 0, .int .u64 0, .slice none 0 0] rfl rfl (HV17.out.c.z.there 9 (Nat.le_refl _)) (by kernel_rfl) (by simp [Value.oneCell']) ?_; refine HV17.out.c.z.setW zcv rfl ?_; intro w18 HZ18 HG18)
              | (show wpList _ _ _ ({ dst := some 107, op := Op.load _ _, type := _, pos := _, after := _, guard := _ } :: _) _ _; refine wpList_load_mid rfl 27 (.tmp 5) rfl w1.heap.size 0 rfl [.int .i64 kd, .int .u64 0, .int .u64 0, .slice none 0 0, .string ⟨#[]⟩, .int .u64 0, .int .u32 0, .int .u64 0, .slice none 0 0] _ HV17.out.v.range Try.underlying27 rfl (by kernel_rfl) ?_)
              | (show wpList _ _ _ ({ dst := none, op := Op.store _ (Operand.tmp 2) (Operand.tmp 107), type := _, pos := _, after := _, guard := _ } :: _) _ _; refine wpList_store_mid rfl 27 (.tmp 2) (.tmp 107) rfl w.heap.size 0 #[.int .i64 kd, .int .u64 0, .int .u64 0, .slice none 0 0, .string ⟨#[]⟩, .int .u64 0, .int .u32 0, .int .u64 0, .slice none 0 0] rfl rfl (HV17.out.c.z.there 9 (Nat.le_refl _)) (by kernel_rfl) (by simp [Value.oneCell']) ?_; refine HV17.out.c.z.setW [.int .i64 kd, .int .u64 0, .int .u64 0, .slice none 0 0, .string ⟨#[]⟩, .int .u64 0, .int .u32 0, .int .u64 0, .slice none 0 0] rfl ?_; intro w18 HZ18 HG18))
            (try simp only [Exit.inBlock, Exit.then])
            refine bodyPost_ret (blk_results rfl Try.underlying27 rfl _ _ w.heap.size _ (by kernel_rfl) _ rfl rfl HZ18.out) rfl ?_
            exact dec_bad (dec_not HDC.out HEN.out (by simp_all)) (below_grown HV17.out.c.bl HV17.out.c.bl.size HG18.out (Nat.le_refl _))
end Go.Proofs.Ytiiogdgnccgehaa
