/- Own texts of this claim, one behind the other. No condition. -/
import Derived.Test.YtplddbaggbdbiaaDoorObPkBC
import Derived.Deep.DeepCutAuto

namespace Go.Proofs.YtplddbaggbdbiaaDoor
open Go.RowKit
set_option linter.unusedVariables false

def keyS : List UInt8 := [107, 101, 121]
def nextS : List UInt8 := [110, 101, 120, 116]
/-- A row of bytes never lies in a chain's block. -/
theorem bs_farC {w : World} {A : Option Addr} {n c : Nat} {l : List UInt8} {p : Nat} {t : TypeId} {g : Int} {B B' : Option Addr} {m k m' k' : Nat} (h : Bs w A n c l) (hn : 0 < n) (hb : Blk w p t [.int .i64 g, .slice B m k, .slice B' m' k']) :
    ∀ b o, A = some ⟨b, o, none⟩ → b ≠ p := by
  intro b o e hbp
  subst e; subst hbp
  obtain ⟨b', o', e, hc⟩ := h.addr hn
  cases e
  have h0 := hc 0 hn
  rw [hb.cell] at h0
  rcases o with _ | _ | _ | o
  · simp at h0
  · simp at h0
  · simp at h0
  · simp at h0
theorem Bs.keepC {w w' : World} {A : Option Addr} {n c : Nat} {l : List UInt8} {p : Nat} {t : TypeId} {g : Int} {B B' : Option Addr} {m k m' k' : Nat} (h : Bs w A n c l) (hb : Blk w p t [.int .i64 g, .slice B m k, .slice B' m' k']) (ho : ∀ b, b ≠ p → w'.heap[b]? = w.heap[b]?) : Bs w' A n c l := by
  rcases Nat.eq_zero_or_pos n with h0 | h0
  · exact ⟨h.1, h.2.1, h.2.2.1, fun h => absurd h (by omega)⟩
  · exact Sl.keepB h (fun b o e => ho b (bs_farC h h0 hb b o e))
def RetStep (w : World) (g : Int) (cur : List UInt8) (K : List (Int × List UInt8)) (e : Ending) (w' : World) : Prop :=
  ∃ A1 c1 A2 c2 v M, e = .returned (.tuple #[.slice A1 32 c1, .agg #[.int .i64 (g + 1), .slice A2 32 c2, v]]) ∧ Bs w' A1 32 c1 (deriveL cur keyS) ∧ Bs w' A2 32 c2 (deriveL cur nextS) ∧ OwnK 54 w w' v M ∧ (∀ x ∈ M, FreshK w x.r) ∧ Apart v ⟨A1, 32, c1, deriveL cur keyS⟩ ∧ Apart v ⟨A2, 32, c2, deriveL cur nextS⟩ ∧ M.map Wr.kk = K ∧ Below w.heap.size w w'
/-- Behind Step's second statement. -/
def StepMid (w : World) (g : Int) (cur : List UInt8) (K : List (Int × List UInt8)) (A1 : Option Addr) (c1 : Nat) (W : World) : Prop :=
  ∃ A2 c2 A3 c3 M, Blk W w.heap.size 41 [.int .i64 (g + 1), .slice A2 32 c2, .slice A3 M.length c3] ∧ Blk W (w.heap.size + 1) 41 [.int .i64 0, .slice none 0 0, .slice none 0 0] ∧ Bs W A1 32 c1 (deriveL cur keyS) ∧ Bs W A2 32 c2 (deriveL cur nextS) ∧ OwnK 54 w W (.slice A3 M.length c3) M ∧ (∀ x ∈ M, FreshK w x.r ∧ ∀ b o, 0 < x.r.n → x.r.a = some ⟨b, o, none⟩ → b ≠ w.heap.size + 1) ∧ (∀ b o, A3 = some ⟨b, o, none⟩ → b ≠ w.heap.size + 1) ∧ Apart (.slice A3 M.length c3) ⟨A1, 32, c1, deriveL cur keyS⟩ ∧ Apart (.slice A3 M.length c3) ⟨A2, 32, c2, deriveL cur nextS⟩ ∧ M.map Wr.kk = K ∧ Below w.heap.size w W
set_option maxRecDepth 100000 in
set_option maxHeartbeats 4000000 in
theorem step_any (gs : Nat) (p0 : Int) (A B : Option Addr) (n c m d : Nat) (cur : List UInt8) (L : List Wr) (w : World) (hR : RealS w gs) (hcur : Bs w A n c cur) (hn : n ≤ 50000) (hL : Wrs w B m d L) (hm : m ≤ 1000) (hrow : ∀ x ∈ L, x.r.n ≤ 20000) (hp1 : -9223372036854775808 ≤ p0) (hp2 : p0 ≤ 2000000000000) (hK : ShaK w) :
    Calls Tryd.prog 41 #[.pointer (some ⟨gs, 0, none⟩), .agg #[.int .i64 p0, .slice A n c, .slice B m d]] w (RetStep w p0 cur (L.map Wr.kk)) := by
  have hcap := hL.2.1.cap
  have hmax := hL.2.1.max
  obtain ⟨W, hW⟩ : ∃ W, W = (w.alloc (.cells #[.int .i64 p0, .slice A n c, .slice B m d] 41)).alloc (.cells #[.int .i64 0, .slice none 0 0, .slice none 0 0] 41) := ⟨_, rfl⟩
  have hBW : Below w.heap.size w W := by rw [hW]; exact ((Below.refl _ _).alloc (Nat.le_refl _) _).alloc (by simp) _
  have hb0 : Blk W w.heap.size 41 [.int .i64 p0, .slice A n c, .slice B m d] := by rw [hW]; exact (Blk.new w 41 #[.int .i64 p0, .slice A n c, .slice B m d]).alloc _
  have hb1 : Blk W (w.heap.size + 1) 41 [.int .i64 0, .slice none 0 0, .slice none 0 0] := by
    rw [hW]
    exact heap_alloc2_new w _ _
  have hzW : W.heap.size = w.heap.size + 1 + 1 := by rw [hW]; simp
  have HDV : Hid (∀ W' (s : List UInt8), s.length ≤ 5000 → Below w.heap.size w W' → Calls Tryd.prog 20 #[.pointer (some ⟨gs, 0, none⟩), .slice A n c, .string ⟨s.toArray⟩] W' (RetRd W' (deriveL cur s))) := fun W' s hs hW' => sDerive_any gs A n c cur s W' (hR.mono hW') (hcur.mono hW') hn hs (hK.mono hW')
  have HD : Hid (∀ W', Below w.heap.size w W' → Calls Tryd.prog 69 #[.slice B m d] W' (RetOwnK W' L)) := fun W' hW' => copiedK_any B m d L W' (hL.mono hW') (by omega) hrow
  have x1 : W.cell? ⟨w.heap.size, 1, none⟩ = some (.slice A n c) := (hb0.cell 1).trans rfl
  have HB0 := Lib.hid hb0; have HB1 := Lib.hid hb1; have HBW := Lib.hid hBW; have HZ := Lib.hid hzW; have HW := Lib.hid hW
  clear hcur hL hb0 hb1 hBW hzW hW hrow hR hK
  go_enter Tryd.func41, Tryd.ntmps41
  go_wp2_with fail
  rw [← HW.out]
  refine (HDV.out W keyS (by decide) HBW.out).mono ?_
  rintro e w1 ⟨A1, c1, rfl, s1, b1⟩
  rw [deriveL_len] at s1 ⊢
  have S1 := Lib.hid s1; have B1 := Lib.hid b1
  have BK1 : Hid (Blk w1 w.heap.size 41 [.int .i64 p0, .slice A n c, .slice B m d]) := HB0.out.mono b1
  have BW1 : Hid (Below w.heap.size w w1) := below_both HBW.out b1
  clear s1 b1 x1
  go_upto_region 2 with fail
  go_cut [17] (fun _ wx => StepMid w p0 cur (L.map Wr.kk) A1 c1 wx)
  case first =>
    have x0 : w1.cell? ⟨w.heap.size, 0, none⟩ = some (.int .i64 p0) := (BK1.out.cell 0).trans rfl
    have x1 : w1.cell? ⟨w.heap.size, 1, none⟩ = some (.slice A n c) := (BK1.out.cell 1).trans rfl
    have x2 : w1.cell? ⟨w.heap.size, 2, none⟩ = some (.slice B m d) := (BK1.out.cell 2).trans rfl
    have hw1 : IntKind.i64.wrap (p0 + 1) = p0 + 1 := IntWalk.i64_in _ (by omega)
    go_region_law (first
      | (go_simp; go_at_call 20; refine (HDV.out w1.drew nextS (by decide) BW1.out.drew).mono ?_; rintro e w2 ⟨A2, c2, rfl, s2, b2⟩; rw [deriveL_len] at s2 ⊢; have B12 : Hid (Below w1.heap.size w1 w2) := ((Below.refl w1.heap.size w1).drew).trans b2; have S2 := Lib.hid s2; have BK2 : Hid (Blk w2 w.heap.size 41 [.int .i64 p0, .slice A n c, .slice B m d]) := BK1.out.mono B12.out; have v0 : w2.cell? ⟨w.heap.size, 0, none⟩ = some (.int .i64 p0) := (BK2.out.cell 0).trans rfl; have v2 : w2.cell? ⟨w.heap.size, 2, none⟩ = some (.slice B m d) := (BK2.out.cell 2).trans rfl; clear s2 b2)
      | (go_simp; go_at_call 69; refine (HD.out w2 (below_both BW1.out B12.out)).mono ?_; rintro e w3 ⟨v3, M3, rfl, own3, fr3, hk3⟩; obtain ⟨A3, c3, rfl, wr3⟩ := own3.wrs; have B23 := Lib.hid own3.1.below; have BK3 : Hid (Blk w3 w.heap.size 41 [.int .i64 p0, .slice A n c, .slice B m d]) := BK2.out.mono own3.1.below; have O3 := Lib.hid own3; have F3 := Lib.hid fr3; have K3 := Lib.hid hk3; have z0 : w3.cell? ⟨w.heap.size, 0, none⟩ = some (.int .i64 p0) := (BK3.out.cell 0).trans rfl; have z1 : w3.cell? ⟨w.heap.size, 1, none⟩ = some (.slice A n c) := (BK3.out.cell 1).trans rfl; have z2 : w3.cell? ⟨w.heap.size, 2, none⟩ = some (.slice B m d) := (BK3.out.cell 2).trans rfl; have y0 := BK3.out.free 0; have y1 := BK3.out.free 1; have y2 := BK3.out.free 2; clear own3 fr3 hk3 wr3))
    all_goals
      obtain ⟨W4, hW4⟩ : ∃ W4, W4 = ((w3.setCell ⟨w.heap.size, 0, none⟩ (.int .i64 (p0 + 1))).setCell ⟨w.heap.size, 1, none⟩ (.slice A2 32 c2)).setCell ⟨w.heap.size, 2, none⟩ (.slice A3 M3.length c3) := ⟨_, rfl⟩
      have BK4 : Hid (Blk W4 w.heap.size 41 [.int .i64 (p0 + 1), .slice A2 32 c2, .slice A3 M3.length c3]) := by rw [hW4]; exact ((BK3.out.set 0 _).set 1 _).set 2 _
      have B13 : Hid (Below w1.heap.size w1 w3) := below_both B12.out B23.out
      have BR4 : Hid (Blk W4 (w.heap.size + 1) 41 [.int .i64 0, .slice none 0 0, .slice none 0 0]) := by
        rw [hW4]
        exact ((((HB1.out.mono B1.out).mono B13.out).far (p := ⟨w.heap.size, 0, none⟩) (by simp) _).far (p := ⟨w.heap.size, 1, none⟩) (by simp) _).far (p := ⟨w.heap.size, 2, none⟩) (by simp) _
      have OTH : Hid (∀ b, b ≠ w.heap.size → W4.heap[b]? = w3.heap[b]?) := by
        intro b hb
        rw [hW4, Below.heap_setCell _ _ _ b hb, Below.heap_setCell _ _ _ b hb, Below.heap_setCell _ _ _ b hb]
      have BW4 : Hid (Below w.heap.size w W4) := by
        rw [hW4]
        exact (((below_both BW1.out B13.out).setCell (p := ⟨w.heap.size, 0, none⟩) (Nat.le_refl _) _).setCell (p := ⟨w.heap.size, 1, none⟩) (Nat.le_refl _) _).setCell (p := ⟨w.heap.size, 2, none⟩) (Nat.le_refl _) _
      rw [← hW4]
      clear hW4 z0 z1 z2 y0 y1 y2 x0 x1 x2 v0 v2 hw1
      have hz : w.heap.size + 1 + 1 ≤ w1.heap.size := by have := HZ.out; have := B1.out.size; omega
      have hle2 := B12.out.size
      have SM : Hid (StepMid w p0 cur (L.map Wr.kk) A1 c1 W4) := by
        refine ⟨A2, c2, A3, c3, M3, BK4.out, BR4.out, Bs.keepC (S1.out.mono B13.out) BK3.out OTH.out, Bs.keepC (S2.out.mono B23.out) BK3.out OTH.out, O3.out.carry F3.out BW4.out (by omega) (fun b hb => OTH.out b (by omega)), (fun x hx => ⟨fun b o h0 e => by have := F3.out x hx b o h0 e; omega, fun b o h0 e => by have := F3.out x hx b o h0 e; omega⟩), (fun b o e => by have := (O3.out.1.1.lt b (by rw [e]; rfl)).1; omega), Apart.old (r := ⟨A1, 32, c1, deriveL cur keyS⟩) O3.out.1 (S1.out.mono B12.out), Apart.old (r := ⟨A2, 32, c2, deriveL cur nextS⟩) O3.out.1 S2.out, K3.out, BW4.out⟩
      clear hz hle2
      go_wp2_with fail
      go_meet
      exact SM.out
  case rest =>
    obtain ⟨A2, c2, A3, c3, M, BK, BR, s1, s2, ho, hf, hA3, hap, hap2, hk, hb⟩ := hcut
    have k0 : wc.cell? ⟨w.heap.size, 0, none⟩ = some (.int .i64 (p0 + 1)) := (BK.cell 0).trans rfl
    have k1 : wc.cell? ⟨w.heap.size, 1, none⟩ = some (.slice A2 32 c2) := (BK.cell 1).trans rfl
    have k2 : wc.cell? ⟨w.heap.size, 2, none⟩ = some (.slice A3 M.length c3) := (BK.cell 2).trans rfl
    have r0 : wc.cell? ⟨w.heap.size + 1, 0, none⟩ = some (.int .i64 0) := (BR.cell 0).trans rfl
    have r1 : wc.cell? ⟨w.heap.size + 1, 1, none⟩ = some (.slice none 0 0) := (BR.cell 1).trans rfl
    have r2 : wc.cell? ⟨w.heap.size + 1, 2, none⟩ = some (.slice none 0 0) := (BR.cell 2).trans rfl
    have f0 := BR.free 0
    have f1 := BR.free 1
    have f2 := BR.free 2
    have BK' := Lib.hid BK; have BR' := Lib.hid BR; have S1' := Lib.hid s1; have S2' := Lib.hid s2; have HO := Lib.hid ho; have HF := Lib.hid hf; have HA3 := Lib.hid hA3; have HAP := Lib.hid hap; have HAP2 := Lib.hid hap2; have HKK := Lib.hid hk; have HB := Lib.hid hb
    clear BK BR s1 s2 ho hf hA3 hap hap2 hk hb
    go_wp2_with fail
    go_region
    obtain ⟨W5, hW5⟩ : ∃ W5, W5 = (((wc.setCell ⟨w.heap.size + 1, 0, none⟩ (.int .i64 (p0 + 1))).setCell ⟨w.heap.size + 1, 1, none⟩ (.slice A2 32 c2)).setCell ⟨w.heap.size + 1, 2, none⟩ (.slice A3 M.length c3)).drew := ⟨_, rfl⟩
    have BN : Blk W5 (w.heap.size + 1) 41 [.int .i64 (p0 + 1), .slice A2 32 c2, .slice A3 M.length c3] := by rw [hW5]; exact ((BR'.out.set 0 _).set 1 _).set 2 _
    have OTH : ∀ b, b ≠ w.heap.size + 1 → W5.heap[b]? = wc.heap[b]? := by
      intro b hb
      rw [hW5]
      exact (Below.heap_setCell _ ⟨w.heap.size + 1, 2, none⟩ _ b hb).trans ((Below.heap_setCell _ ⟨w.heap.size + 1, 1, none⟩ _ b hb).trans (Below.heap_setCell _ ⟨w.heap.size + 1, 0, none⟩ _ b hb))
    have HB5 : Below w.heap.size w W5 := by
      rw [hW5]
      exact (((HB.out.setCell (p := ⟨w.heap.size + 1, 0, none⟩) (by show w.heap.size ≤ w.heap.size + 1; omega) _).setCell (p := ⟨w.heap.size + 1, 1, none⟩) (by show w.heap.size ≤ w.heap.size + 1; omega) _).setCell (p := ⟨w.heap.size + 1, 2, none⟩) (by show w.heap.size ≤ w.heap.size + 1; omega) _).drew
    have q0 : W5.cell? ⟨w.heap.size + 1, 0, none⟩ = some (.int .i64 (p0 + 1)) := (BN.cell 0).trans rfl
    have q1 : W5.cell? ⟨w.heap.size + 1, 1, none⟩ = some (.slice A2 32 c2) := (BN.cell 1).trans rfl
    have q2 : W5.cell? ⟨w.heap.size + 1, 2, none⟩ = some (.slice A3 M.length c3) := (BN.cell 2).trans rfl
    have hO5 : OwnK 54 w W5 (.slice A3 M.length c3) M := by
      obtain ⟨⟨⟨hl, ho⟩, _⟩, hr⟩ := HO.out
      refine ⟨⟨⟨hl, ?_⟩, HB5⟩, fun x hx => ?_⟩
      · rcases ho with h | ⟨g, cap, cu, hv, hg, hh, r⟩
        · exact .inl h
        · injection hv with e1 e2 e3
          exact .inr ⟨g, cap, cu, by rw [e1, e3], hg, by rw [OTH g (HA3.out g 0 e1)]; exact hh, r⟩
      · obtain ⟨⟨hb2, hap⟩, hp⟩ := hr x hx
        refine ⟨⟨?_, hap⟩, hp⟩
        rcases Nat.eq_zero_or_pos x.r.n with h0 | h0
        · exact ⟨hb2.1, hb2.2.1, hb2.2.2.1, fun h => absurd h (by omega)⟩
        · exact Sl.keepB hb2 (fun b o e => OTH b ((HF.out x hx).2 b o h0 e))
    have hS1 : Bs W5 A1 32 c1 (deriveL cur keyS) := Bs.keepC S1'.out BR'.out OTH
    have hS2 : Bs W5 A2 32 c2 (deriveL cur nextS) := Bs.keepC S2'.out BR'.out OTH
    rw [← hW5]
    clear hW5 k0 k1 k2 r0 r1 r2 f0 f1 f2
    have FIN := Lib.hid (show RetStep w p0 cur (L.map Wr.kk) (.returned (.tuple #[.slice A1 32 c1, .agg #[.int .i64 (p0 + 1), .slice A2 32 c2, .slice A3 M.length c3]])) W5 from ⟨A1, c1, A2, c2, _, M, rfl, hS1, hS2, hO5, (fun x hx => (HF.out x hx).1), HAP.out, HAP2.out, HKK.out, HB5⟩)
    clear BN OTH HB5 hO5 hS1 hS2
    go_wp2_with fail
    exact bodyPost_ret (v := .tuple #[.slice A1 32 c1, .agg #[.int .i64 (p0 + 1), .slice A2 32 c2, .slice A3 M.length c3]]) (by simp [results, Tryd.results41, go_sem, q0, q1, q2]) rfl FIN.out
end Go.Proofs.YtplddbaggbdbiaaDoor
