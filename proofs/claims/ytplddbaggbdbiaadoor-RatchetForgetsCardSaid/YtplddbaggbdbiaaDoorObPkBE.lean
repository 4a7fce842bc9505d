/- Own texts of this claim, one behind the other. No condition. -/
import Derived.Test.YtplddbaggbdbiaaDoorObPkBD

namespace Go.Proofs.YtplddbaggbdbiaaDoor
open Go.RowKit
set_option linter.unusedVariables false

def chainL (cur : List UInt8) : Nat → List UInt8
  | 0 => cur
  | i + 1 => deriveL (chainL cur i) nextS
def skipsL (p0 : Int) (cur : List UInt8) (k : Nat) : List (Int × List UInt8) := (List.range k).map fun (i : Nat) => (p0 + i, deriveL (chainL cur i) keyS)
theorem skipsL_snoc (p0 : Int) (cur : List UInt8) (k : Nat) : skipsL p0 cur (k + 1) = skipsL p0 cur k ++ [(p0 + k, deriveL (chainL cur k) keyS)] := by simp [skipsL, List.range_succ]
theorem skipsL_len (p0 : Int) (cur : List UInt8) (k : Nat) : (skipsL p0 cur k).length = k := by simp [skipsL]
/-- A key, a chain, no fault. -/
def RetAt (w : World) (g : Int) (cur key : List UInt8) (K : List (Int × List UInt8)) (e : Ending) (w' : World) : Prop :=
  ∃ A1 c1 A2 c2 v M, e = .returned (.tuple #[.slice A1 key.length c1, .agg #[.int .i64 g, .slice A2 cur.length c2, v], .int .i64 0]) ∧ Bs w' A1 key.length c1 key ∧ Bs w' A2 cur.length c2 cur ∧ OwnK 54 w w' v M ∧ (∀ x ∈ M, FreshK w x.r) ∧ M.map Wr.kk = K ∧ FreshA w A2 ∧ Below w.heap.size w w'
theorem rows_le {w w' : World} {M L : List Wr} (h : M.map Wr.kk = L.map Wr.kk) (hM : ∀ x ∈ M, Bs w x.r.a x.r.n x.r.c x.r.l) (hL : ∀ x ∈ L, Bs w' x.r.a x.r.n x.r.c x.r.l) (hr : ∀ x ∈ L, x.r.n ≤ 20000) : ∀ x ∈ M, x.r.n ≤ 20000 := by
  intro x hx
  have h1 : x.kk ∈ L.map Wr.kk := by rw [← h]; exact List.mem_map_of_mem hx
  obtain ⟨y, hy, e⟩ := List.mem_map.1 h1
  have e2 : y.r.l = x.r.l := (Prod.mk.inj e).2
  have l1 : x.r.l.length = x.r.n := by have := Sl.len (hM x hx); simpa using this
  have l2 : y.r.l.length = y.r.n := by have := Sl.len (hL y hy); simpa using this
  have := hr y hy
  rw [e2] at l2
  omega
theorem Wrs.keepC {w w' : World} {A : Option Addr} {n c : Nat} {M : List Wr} {p : Nat} {t : TypeId} {g : Int} {B B' : Option Addr} {m k m' k' : Nat} (h : Wrs w A n c M) (hb : Blk w p t [.int .i64 g, .slice B m k, .slice B' m' k']) (ho : ∀ b, b ≠ p → w'.heap[b]? = w.heap[b]?) (hA : ∀ b o, A = some ⟨b, o, none⟩ → b ≠ p) : Wrs w' A n c M :=
  ⟨h.1, Sl.keepB h.2.1 (fun b o e => ho b (hA b o e)), fun x hx => ⟨Bs.keepC (h.2.2 x hx).1 hb ho, (h.2.2 x hx).2⟩⟩
def genAt (p : Nat) (w : World) : Int := match w.cell? ⟨p, 0, none⟩ with
  | some (.int _ x) => x
  | _ => 0
/-- Ahead of a round: the chain at block g5, behind i steps. -/
def AtMid (w : World) (g5 : Nat) (p0 : Int) (cur : List UInt8) (K : List (Int × List UInt8)) (i : Nat) (W : World) : Prop :=
  ∃ A n c B d M, n ≤ 50000 ∧ Blk W g5 41 [.int .i64 (p0 + i), .slice A n c, .slice B M.length d] ∧ Blk W (g5 + 1) 41 [.int .i64 0, .slice none 0 0, .slice none 0 0] ∧ Bs W A n c (chainL cur i) ∧ Wrs W B M.length d M ∧ M.map Wr.kk = K ++ skipsL p0 cur i ∧ (∀ x ∈ M, x.r.n ≤ 20000) ∧ Below w.heap.size w W
set_option maxRecDepth 100000 in
set_option maxHeartbeats 4000000 in
theorem atStep_any (gs : Nat) (p0 : Int) (A B : Option Addr) (n c m d : Nat) (cur : List UInt8) (L : List Wr) (gen win : Int) (k : Nat) (w : World) (hR : RealS w gs) (hcur : Bs w A n c cur) (hn : n ≤ 50000) (hL : Wrs w B m d L) (hm : m ≤ 100) (hrow : ∀ x ∈ L, x.r.n ≤ 20000) (hp1 : 0 ≤ p0) (hgk : gen = p0 + k) (hg : gen < 1073741824) (hw1 : 1 ≤ win) (hw2 : win ≤ 8) (hk : (k : Int) ≤ win) (hK : ShaK w) :
    Calls Tryd.prog 14 #[.pointer (some ⟨gs, 0, none⟩), .agg #[.int .i64 p0, .slice A n c, .slice B m d], .int .i64 gen, .int .i64 win] w (RetAt w (gen + 1) (chainL cur (k + 1)) (deriveL (chainL cur k) keyS) ((L.map Wr.kk ++ skipsL p0 cur k).drop (m + k - win.toNat))) := by
  obtain ⟨W, hW⟩ : ∃ W, W = (w.alloc (.cells #[.int .i64 p0, .slice A n c, .slice B m d] 41)).alloc (.cells #[.int .i64 0, .slice none 0 0, .slice none 0 0] 41) := ⟨_, rfl⟩
  have hBW : Below w.heap.size w W := by rw [hW]; exact ((Below.refl _ _).alloc (Nat.le_refl _) _).alloc (by simp) _
  have hb0 : Blk W w.heap.size 41 [.int .i64 p0, .slice A n c, .slice B m d] := by rw [hW]; exact (Blk.new w 41 #[.int .i64 p0, .slice A n c, .slice B m d]).alloc _
  have hb1 : Blk W (w.heap.size + 1) 41 [.int .i64 0, .slice none 0 0, .slice none 0 0] := by
    rw [hW]
    exact heap_alloc2_new w _ _
  have HP := Lib.hid (place_any p0 A B n c m d L gen W (hL.mono hBW))
  have hll : L.length = m := hL.1
  have HB0 := Lib.hid hb0; have HB1 := Lib.hid hb1; have HBW := Lib.hid hBW; have HW := Lib.hid hW
  have HR := Lib.hid hR; have HC := Lib.hid hcur; have HL := Lib.hid hL; have HRW := Lib.hid hrow; have HK := Lib.hid hK; have HLL := Lib.hid hll; have HG := Lib.hid hgk
  have t1 : ¬ gen < p0 := by omega
  have t2 : gen - p0 ≤ win := by omega
  clear hcur hL hb0 hb1 hBW hW hrow hR hK hll hgk
  generalize idxK gen L = r at *
  go_enter Tryd.func14, Tryd.ntmps14
  go_wp2_with fail
  go_step3
  go_wp2_with fail
  rw [← HW.out]
  refine HP.out.mono ?_
  rintro e w1 ⟨rfl, b1⟩
  have BK1 := Lib.hid (HB0.out.mono b1); have BR1 := Lib.hid (HB1.out.mono b1); have BW1 := Lib.hid (below_both HBW.out b1)
  have k0 : w1.cell? ⟨w.heap.size, 0, none⟩ = some (.int .i64 p0) := (BK1.out.cell 0).trans rfl
  clear b1
  go_wp2_with fail
  go_step3
  go_wp2_with fail
  clear k0
  have MID0 : Hid (AtMid w w.heap.size p0 cur (L.map Wr.kk) 0 w1) := ⟨A, n, c, B, d, L, hn, by rw [HLL.out]; simp; exact BK1.out, BR1.out, HC.out.mono BW1.out, by rw [HLL.out]; exact HL.out.mono BW1.out, by simp [skipsL], HRW.out, BW1.out⟩
  go_loopw [13] (fun _ wr => ∃ i : Nat, i ≤ k ∧ AtMid w w.heap.size p0 cur (L.map Wr.kk) i wr) (fun _ wr => (gen - genAt w.heap.size wr).toNat)
  case atStart => exact ⟨0, Nat.zero_le _, MID0.out⟩
  case round =>
    obtain ⟨i, hi, A1, n1, c1, B1, d1, M, hn1, bk, br, s1, m1, hmk, hrw, hb⟩ := hrel
    have hml : M.length = m + i := by
      have := congrArg List.length hmk
      rw [List.length_map, List.length_append, List.length_map, skipsL_len, HLL.out] at this
      exact this
    have hge : genAt w.heap.size wr = p0 + i := by unfold genAt; rw [show wr.cell? ⟨w.heap.size, 0, none⟩ = some (.int .i64 (p0 + i)) from (bk.cell 0).trans rfl]
    have k0 : wr.cell? ⟨w.heap.size, 0, none⟩ = some (.int .i64 (p0 + i)) := (bk.cell 0).trans rfl
    have k1 : wr.cell? ⟨w.heap.size, 1, none⟩ = some (.slice A1 n1 c1) := (bk.cell 1).trans rfl
    have k2 : wr.cell? ⟨w.heap.size, 2, none⟩ = some (.slice B1 M.length d1) := (bk.cell 2).trans rfl
    have hgg := HG.out
    have HST := Lib.hid (step_any gs (p0 + i) A1 B1 n1 c1 M.length d1 (chainL cur i) M wr (HR.out.mono hb) s1 hn1 m1 (by omega) hrw (by omega) (by omega) (HK.out.mono hb))
    have BK := Lib.hid bk; have BR := Lib.hid br; have HMK := Lib.hid hmk; have HB := Lib.hid hb; have HGE := Lib.hid hge; have HML := Lib.hid hml; have HRW1 := Lib.hid hrw
    have LT5 : Hid (w.heap.size + 1 < wr.heap.size) := br.lt
    have HRL : Hid (∀ x ∈ M, Bs wr x.r.a x.r.n x.r.c x.r.l) := fun x hx => (m1.2.2 x hx).1
    clear bk br s1 m1 hmk hrw hb hge hml hgg
    go_wp2_with fail
    refine HST.out.mono ?_
    rintro e w2 ⟨A2, c2, A3, c3, v3, M3, rfl, s2, s3, o3, f3, ap3, ap4, mk3, b2⟩
    obtain ⟨B3, d3, rfl, wr3⟩ := o3.wrs
    have S2 := Lib.hid s2; have S3 := Lib.hid s3; have O3 := Lib.hid o3; have F3 := Lib.hid f3; have AP3 := Lib.hid ap3; have AP4 := Lib.hid ap4; have MK3 := Lib.hid mk3; have B2 := Lib.hid b2
    clear s2 s3 o3 f3 ap3 ap4 mk3 b2 wr3 k0 k1 k2
    obtain ⟨W3, hW3⟩ : ∃ W3, W3 = w2.alloc (.cells #[.int .i64 (p0 + i + 1), .slice A3 32 c3, .slice B3 M3.length d3] 41) := ⟨_, rfl⟩
    have AL : Hid (Below w2.heap.size w2 W3) := by rw [hW3]; exact (Below.refl _ _).alloc (Nat.le_refl _) _
    have BT : Hid (Blk W3 w2.heap.size 41 [.int .i64 (p0 + i + 1), .slice A3 32 c3, .slice B3 M3.length d3]) := by rw [hW3]; exact Blk.new w2 _ _
    have B23 : Hid (Below wr.heap.size wr W3) := below_both B2.out AL.out
    have BK3 : Hid (Blk W3 w.heap.size 41 [.int .i64 (p0 + i), .slice A1 n1 c1, .slice B1 M.length d1]) := BK.out.mono B23.out
    have HW3 := Lib.hid hW3; clear hW3
    have e0 : W3.cell? ⟨w.heap.size, 0, none⟩ = some (.int .i64 (p0 + i)) := (BK3.out.cell 0).trans rfl
    have e1 : W3.cell? ⟨w2.heap.size, 0, none⟩ = some (.int .i64 (p0 + i + 1)) := (BT.out.cell 0).trans rfl
    have e2 : W3.cell? ⟨w2.heap.size, 1, none⟩ = some (.slice A3 32 c3) := (BT.out.cell 1).trans rfl
    have e3 : W3.cell? ⟨w2.heap.size, 2, none⟩ = some (.slice B3 M3.length d3) := (BT.out.cell 2).trans rfl
    go_upto_region 14 with fail
    rw [← HW3.out]
    by_cases hlt : i < k
    · have tne : (p0 + (i : Int) == gen) = false := by rw [beq_eq_false_iff_ne]; have := HG.out; omega
      have OW3 : Hid (Own wr W3 54 2 (.slice B3 M3.length d3) M3.length (M3.flatMap Wr.cells)) := O3.out.1.mono AL.out
      have hml3 : M3.length ≤ 200 := by
        have := congrArg List.length MK3.out
        rw [List.length_map, List.length_map, HML.out] at this
        omega
      have NBT : Hid ((Value.slice B3 M3.length d3).ownBlock ≠ some w2.heap.size) := fun e => by have := (O3.out.1.1.lt _ e).2; omega
      have NB5 : Hid ((Value.slice B3 M3.length d3).ownBlock ≠ some w.heap.size) := fun e => by have := (O3.out.1.1.lt _ e).1; have := LT5.out; omega
      have NB9 : Hid ((Value.slice B3 M3.length d3).ownBlock ≠ some (w.heap.size + 1)) := fun e => by have := (O3.out.1.1.lt _ e).1; have := LT5.out; omega
      have BR3 : Hid (Blk W3 (w.heap.size + 1) 41 [.int .i64 0, .slice none 0 0, .slice none 0 0]) := BR.out.mono B23.out
      have NE1 : Hid (w.heap.size ≠ w2.heap.size) := by have := B2.out.size; have := LT5.out; show _ ≠ _; omega
      have NE2 : Hid (w.heap.size + 1 ≠ w2.heap.size) := by have := B2.out.size; have := LT5.out; show _ ≠ _; omega
      go_wp2_with (first
        | (at_builtin; refine wpList_pushG rfl (.tmp 97) (.tmp 102) 39 rfl tSk rfl OW3.out #[.int .i64 (p0 + i), .slice A2 32 c2] rfl rfl (Wr.ones ⟨p0 + i, ⟨A2, 32, c2, []⟩⟩) (by omega) ?_; intro v4 w4 own4 kept4; obtain ⟨A4, c4, rfl, sl4⟩ := own4.slice; have O4 := Lib.hid own4; have KP : Hid (Kept (W3.alloc (.cells #[.int .i64 (p0 + i), .slice A2 32 c2] 54)) w4 (.slice B3 M3.length d3) (.slice A4 (M3.length + 1) c4)) := kept4; have S4 := Lib.hid sl4; have BT4 : Hid (Blk w4 w2.heap.size 41 [.int .i64 (p0 + i + 1), .slice A3 32 c3, .slice B3 M3.length d3]) := (kept4.1 _ (BT.out.alloc _).lt NBT.out).trans (BT.out.alloc _); have BK4 : Hid (Blk w4 w.heap.size 41 [.int .i64 (p0 + i), .slice A1 n1 c1, .slice B1 M.length d1]) := (kept4.1 _ (BK3.out.alloc _).lt NB5.out).trans (BK3.out.alloc _); have BR4 : Hid (Blk w4 (w.heap.size + 1) 41 [.int .i64 0, .slice none 0 0, .slice none 0 0]) := (kept4.1 _ (BR3.out.alloc _).lt NB9.out).trans (BR3.out.alloc _); have z0 : w4.cell? ⟨w2.heap.size, 0, none⟩ = some (.int .i64 (p0 + i + 1)) := (BT4.out.cell 0).trans rfl; have z1 : w4.cell? ⟨w2.heap.size, 1, none⟩ = some (.slice A3 32 c3) := (BT4.out.cell 1).trans rfl; have z2 : w4.cell? ⟨w2.heap.size, 2, none⟩ = some (.slice B3 M3.length d3) := (BT4.out.cell 2).trans rfl; have y2 := BT4.out.free 2; have BK5 : Hid (Blk (w4.setCell ⟨w2.heap.size, 2, none⟩ (.slice A4 (M3.length + 1) c4)) w.heap.size 41 [.int .i64 (p0 + i), .slice A1 n1 c1, .slice B1 M.length d1]) := BK4.out.far (p := ⟨w2.heap.size, 2, none⟩) NE1.out _; clear own4 kept4 sl4 e0 e1 e2 e3)
        | (refine wpList_store_ch rfl (.tmp 5) (.tmp 105) rfl w.heap.size (p0 + i + 1) A3 A4 32 c3 (M3.length + 1) c4 rfl rfl BK5.out ?_))
      obtain ⟨W5, hW5⟩ : ∃ W5, W5 = w4.setCell ⟨w2.heap.size, 2, none⟩ (.slice A4 (M3.length + 1) c4) := ⟨_, rfl⟩
      have OT5 : ∀ b, b ≠ w2.heap.size → W5.heap[b]? = w4.heap[b]? := fun b hb => by rw [hW5]; exact Below.heap_setCell _ _ _ b hb
      have hBK5 : Blk W5 w.heap.size 41 [.int .i64 (p0 + i), .slice A1 n1 c1, .slice B1 M.length d1] := by rw [hW5]; exact BK5.out
      rw [← hW5]
      obtain ⟨W6, hW6⟩ : ∃ W6, W6 = W5.setRow w.heap.size #[.int .i64 (p0 + i + 1), .slice A3 32 c3, .slice A4 (M3.length + 1) c4] := ⟨_, rfl⟩
      have OT6 : ∀ b, b ≠ w.heap.size → W6.heap[b]? = W5.heap[b]? := fun b hb => by rw [hW6]; exact setRow_other W5 w.heap.size b _ hb
      have hBK6 : Blk W6 w.heap.size 41 [.int .i64 (p0 + i + 1), .slice A3 32 c3, .slice A4 (M3.length + 1) c4] := by rw [hW6]; exact setRow_heap W5 w.heap.size _ _ _ _ hBK5
      have hBR6 : Blk W6 (w.heap.size + 1) 41 [.int .i64 0, .slice none 0 0, .slice none 0 0] := (OT6 _ (by omega)).trans ((OT5 _ NE2.out).trans BR4.out)
      have hBW6 : Below w.heap.size w W6 := by
        rw [hW6, hW5]
        exact below_row ((below_both HB.out O4.out.below).setCell (p := ⟨w2.heap.size, 2, none⟩) (by have := B2.out.size; have := LT5.out; show w.heap.size ≤ w2.heap.size; omega) _) (Nat.le_refl _) _
      rw [← hW6]
      clear hW5 hW6
      have hAL := (Below.refl W3.heap.size W3).alloc (Nat.le_refl _) (.cells #[.int .i64 (p0 + i), .slice A2 32 c2] 54)
      have keep : ∀ (r : BRow), Bs w2 r.a r.n r.c r.l → Apart (.slice B3 M3.length d3) r → Bs W6 r.a r.n r.c r.l := fun r hr ha =>
        Bs.keepC (Bs.keepC (Bs.kept (r := r) ((hr.mono AL.out).mono hAL) KP.out ha).1 BT4.out OT5) hBK5 OT6
      have nb : ∀ b o, A4 = some ⟨b, o, none⟩ → b ≠ w2.heap.size ∧ b ≠ w.heap.size := by
        intro b o e
        have e' : (Value.slice A4 (M3.length + 1) c4).ownBlock = some b := by rw [e]; rfl
        rcases KP.out.2.2 with h | h
        · rw [e'] at h
          exact ⟨fun hb => NBT.out (by rw [← h, hb]), fun hb => NB5.out (by rw [← h, hb])⟩
        · rw [e'] at h
          injection h with h
          have h1 := BT.out.lt
          have h2 := BK3.out.lt
          simp at h
          omega
      have hWr : Wrs W6 A4 (M3.length + 1) c4 (M3 ++ [⟨p0 + i, ⟨A2, 32, c2, deriveL (chainL cur i) keyS⟩⟩]) := by
        refine ⟨by simp, ?_, fun x hx => ?_⟩
        · have h4 : Sl w4 A4 (M3.length + 1) c4 2 ((M3 ++ [(⟨p0 + i, ⟨A2, 32, c2, deriveL (chainL cur i) keyS⟩⟩ : Wr)]).flatMap Wr.cells) := by rw [List.flatMap_append]; exact S4.out
          exact Sl.keepB (Sl.keepB h4 (fun b o e => OT5 b (nb b o e).1)) (fun b o e => OT6 b (nb b o e).2)
        · rcases List.mem_append.1 hx with hx | hx
          · exact ⟨keep x.r (O3.out.2 x hx).1.1 (O3.out.2 x hx).1.2, (O3.out.2 x hx).2⟩
          · obtain rfl : x = ⟨p0 + i, ⟨A2, 32, c2, deriveL (chainL cur i) keyS⟩⟩ := by simpa using hx
            exact ⟨keep ⟨A2, 32, c2, deriveL (chainL cur i) keyS⟩ S2.out AP3.out, by show _ ≤ p0 + (i : Int); omega, by show p0 + (i : Int) ≤ _; have := HG.out; omega⟩
      have hNext : Bs W6 A3 32 c3 (chainL cur (i + 1)) := keep ⟨A3, 32, c3, deriveL (chainL cur i) nextS⟩ S3.out AP4.out
      have hKK : (M3 ++ [(⟨p0 + i, ⟨A2, 32, c2, deriveL (chainL cur i) keyS⟩⟩ : Wr)]).map Wr.kk = L.map Wr.kk ++ skipsL p0 cur (i + 1) := by
        rw [List.map_append, MK3.out, HMK.out, skipsL_snoc, List.append_assoc]; rfl
      have hRows : ∀ x ∈ M3 ++ [(⟨p0 + i, ⟨A2, 32, c2, deriveL (chainL cur i) keyS⟩⟩ : Wr)], x.r.n ≤ 20000 := by
        intro x hx
        rcases List.mem_append.1 hx with hx | hx
        · exact rows_le MK3.out (fun x hx => (O3.out.2 x hx).1.1) HRL.out HRW1.out x hx
        · obtain rfl : x = ⟨p0 + i, ⟨A2, 32, c2, deriveL (chainL cur i) keyS⟩⟩ := by simpa using hx
          show 32 ≤ 20000
          omega
      have e1 : p0 + ((i + 1 : Nat) : Int) = p0 + i + 1 := by omega
      have MIDN : AtMid w w.heap.size p0 cur (L.map Wr.kk) (i + 1) W6 :=
        ⟨A3, 32, c3, A4, c4, _, by omega, by rw [e1, List.length_append]; exact hBK6, hBR6, hNext, by rw [List.length_append]; exact hWr, hKK, hRows, hBW6⟩
      have hge6 : genAt w.heap.size W6 = p0 + i + 1 := by unfold genAt; rw [show W6.cell? ⟨w.heap.size, 0, none⟩ = some (.int .i64 (p0 + i + 1)) from (hBK6.cell 0).trans rfl]
      refine ⟨⟨i + 1, by omega, MIDN⟩, ?_⟩
      have := HGE.out
      have := HG.out
      rw [hge6, HGE.out]
      omega
    · obtain rfl : i = k := by omega
      have teq : (p0 + (i : Int) == gen) = true := by rw [beq_iff_eq]; have := HG.out; omega
      have hml3 : M3.length = m + i := by
        have := congrArg List.length MK3.out
        rw [List.length_map, List.length_map, HML.out] at this
        exact this
      have WR3 : Hid (Wrs W3 B3 M3.length d3 M3) := by
        obtain ⟨A', c', e, h⟩ := O3.out.wrs
        cases e
        exact h.mono AL.out
      have HDR := Lib.hid (drop_any (p0 + i + 1) A3 B3 32 c3 M3.length d3 (chainL cur (i + 1)) M3 win W3 (S3.out.mono AL.out) (by omega) WR3.out (by omega) (rows_le MK3.out (fun x hx => (O3.out.2 x hx).1.1) HRL.out HRW1.out) (by omega) (by omega))
      have BR3 : Hid (Blk W3 (w.heap.size + 1) 41 [.int .i64 0, .slice none 0 0, .slice none 0 0]) := BR.out.mono B23.out
      have HML3 := Lib.hid hml3; clear hml3
      go_wp2_with (first
        | (go_at_call 39; refine HDR.out.mono ?_; rintro e w4 ⟨A5, c5, v5, M5, rfl, s5, o5, f5, k5, fa5, b5⟩; obtain ⟨B5, d5, rfl, _⟩ := o5.wrs; have S5 := Lib.hid s5; have O5 := Lib.hid o5; have F5 := Lib.hid f5; have K5 := Lib.hid k5; have B5' := Lib.hid b5; have FA5 := Lib.hid fa5; have BR4 := Lib.hid (BR3.out.mono b5); clear s5 o5 f5 k5 b5 fa5 e0 e1 e2 e3)
        | (refine wpList_store_ch rfl (.tmp 9) (.tmp 95) rfl (w.heap.size + 1) (p0 + i + 1) A5 B5 (chainL cur (i + 1)).length c5 M5.length d5 rfl rfl BR4.out ?_))
      try rw [Exit.noGoto_ret]
      obtain ⟨W5, hW5⟩ : ∃ W5, W5 = w4.setRow (w.heap.size + 1) #[.int .i64 (p0 + i + 1), .slice A5 (chainL cur (i + 1)).length c5, .slice B5 M5.length d5] := ⟨_, rfl⟩
      have OT5 : ∀ b, b ≠ w.heap.size + 1 → W5.heap[b]? = w4.heap[b]? := fun b hb => by rw [hW5]; exact setRow_other w4 (w.heap.size + 1) b _ hb
      have hBK : Blk W5 (w.heap.size + 1) 41 [.int .i64 (p0 + i + 1), .slice A5 (chainL cur (i + 1)).length c5, .slice B5 M5.length d5] := by rw [hW5]; exact setRow_heap w4 (w.heap.size + 1) _ _ _ _ BR4.out
      have hB5 : Below w.heap.size w W5 := by
        rw [hW5]
        exact below_row (below_both (below_both HB.out B23.out) B5'.out) (by omega) _
      rw [← hW5]
      clear hW5
      have q0 : W5.cell? ⟨w.heap.size + 1, 0, none⟩ = some (.int .i64 (p0 + i + 1)) := (hBK.cell 0).trans rfl
      have q1 : W5.cell? ⟨w.heap.size + 1, 1, none⟩ = some (.slice A5 (chainL cur (i + 1)).length c5) := (hBK.cell 1).trans rfl
      have q2 : W5.cell? ⟨w.heap.size + 1, 2, none⟩ = some (.slice B5 M5.length d5) := (hBK.cell 2).trans rfl
      have hlt5 : w.heap.size + 1 < W3.heap.size := BR3.out.lt
      have hwz : w.heap.size ≤ W3.heap.size := by omega
      have hKK : M5.map Wr.kk = (L.map Wr.kk ++ skipsL p0 cur i).drop (m + i - win.toNat) := by
        rw [K5.out, HML3.out, List.map_drop, MK3.out, HMK.out]
      have FIN : RetAt w (gen + 1) (chainL cur (i + 1)) (deriveL (chainL cur i) keyS) ((L.map Wr.kk ++ skipsL p0 cur i).drop (m + i - win.toNat)) (.returned (.tuple #[.slice A2 32 c2, .agg #[.int .i64 (p0 + i + 1), .slice A5 (chainL cur (i + 1)).length c5, .slice B5 M5.length d5], .int .i64 0])) W5 := by
        refine ⟨A2, c2, A5, c5, .slice B5 M5.length d5, M5, ?_, ?_, Bs.keepC S5.out BR4.out OT5, O5.out.carry F5.out hB5 hwz (fun b hb => OT5 b (by omega)), (fun x hx b o h0 e => by have := F5.out x hx b o h0 e; omega), hKK, (fun b o e => by have := FA5.out b o e; omega), hB5⟩
        · rw [deriveL_len, HG.out]
        · rw [deriveL_len]; exact Bs.keepC ((S2.out.mono AL.out).mono B5'.out) BR4.out OT5
      exact bodyPost_ret (v := .tuple #[.slice A2 32 c2, .agg #[.int .i64 (p0 + i + 1), .slice A5 (chainL cur (i + 1)).length c5, .slice B5 M5.length d5], .int .i64 0]) (by simp [results, Tryd.results14, go_sem, q0, q1, q2]) rfl FIN
end Go.Proofs.YtplddbaggbdbiaaDoor
