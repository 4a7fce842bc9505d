/- ObEpB, ObEpC: one text. No condition. -/
import Derived.Test.YthlnoaalhojphaaGreatDoorObEpA
import Derived.Test.YthlnoaalhojphaaGreatDoorObPre
import Derived.Outline
/- Epochs: Born, of whatever suite. No condition. -/
namespace Go.Proofs.YthlnoaalhojphaaGreatDoor
open Go.RowKit
set_option linter.unusedVariables false
theorem why_ok (snd : Nat) (h1 : 1 ≤ snd) (h4 : snd ≤ 4) (L : List BRow) (hL : ∀ x ∈ L, x.n = 32) : whyL (snd : Int) L = 0 := by
  unfold whyL
  rw [if_neg (by omega), if_neg]
  intro h
  obtain ⟨x, hx, hh⟩ := List.any_eq_true.1 h
  unfold oddK at hh
  rw [hL x hx] at hh
  cases hh
theorem row1_sl (w : World) (x : BRow) (t : TypeId) : Sl (w.alloc (.cells #[x.v] t)) (some ⟨w.heap.size, 0, none⟩) 1 1 1 ([x].map BRow.v) := by
  refine ⟨by simp, Nat.le_refl _, by simp [maxLen], fun _ => ⟨_, _, rfl, fun j u hu => ?_⟩⟩
  rw [Nat.zero_add, (Blk.new w _ _).cell]
  exact hu
theorem row2_sl (w : World) (x y : BRow) (t : TypeId) : Sl (w.alloc (.cells #[x.v, y.v] t)) (some ⟨w.heap.size, 0, none⟩) 2 2 1 ([x, y].map BRow.v) := by
  refine ⟨by simp, Nat.le_refl _, by simp [maxLen], fun _ => ⟨_, _, rfl, fun j u hu => ?_⟩⟩
  rw [Nat.zero_add, (Blk.new w _ _).cell]
  exact hu
theorem Kp.sl {w0 w : World} {v : Value} {l : List UInt8} {n : Nat} (h : Kp w0 w v l) (hl : l.length = n) : ∃ A c, v = .slice A n c := by
  obtain ⟨A, c, rfl, _⟩ := h
  exact ⟨A, c, by rw [hl]⟩
theorem Chs.sl {w0 w : World} {B : Nat} {vc : Value} {M : List BRow} (h : Chs w0 B w vc M) : ∃ A c, vc = .slice A M.length c := by
  rcases h.1.2 with ⟨hv, hx⟩ | ⟨g, cap, cur, hv, _⟩
  · exact ⟨none, 0, by rw [hv, hx]⟩
  · exact ⟨_, cap, hv⟩
theorem Chs.cut {w0 w : World} {B : Nat} {vc : Value} {M : List BRow} (h : Chs w0 B w vc M) (hB : B ≤ w.heap.size) : Own (cutW w B) w 50 3 vc M.length (M.flatMap chC) := ⟨by rw [cutW_size hB]; exact h.1, by rw [cutW_size hB]; exact cutW_below hB⟩
theorem keptBlk {w w' : World} {B s n g : Nat} {t t' : TypeId} {v v' : Value} {xs cs : List Value} (ho : w.ownsRow B t s v n xs) (h : Kept w w' v v') (hb : Blk w g t' cs) (hne : t' ≠ t) : Blk w' g t' cs := by
  refine (h.1 g hb.lt (fun e => ?_)).trans hb
  rcases ho.2 with ⟨hv, _⟩ | ⟨g', cap, cur, hv, _, hh, _⟩
  · rw [hv] at e; cases e
  · rw [hv] at e
    injection e with e
    subst e
    have hb' : w.heap[g']? = some (.cells cs.toArray t' (0, 0)) := hb
    rw [hh] at hb'
    injection hb' with hb'
    injection hb' with _ hb'
    exact hne hb'.symm
section
variable {w0 : World} {p : Nat}
/-- What stands while chains are made. -/
structure BI (w0 w : World) (p : Nat) (A Ae Ai : Option Addr) (c ce ci : Nat) (k ex ini : List UInt8) (vc : Value) (M : List BRow) (wr : World) : Prop where
  q1 : Blk wr w.heap.size 24 [.pointer (some ⟨p, 0, none⟩)]
  q2 : Blk wr (w.heap.size + 1) 22 [.slice A 32 c]
  pb : Blk wr (w.heap.size + 1 + 1) 30 [.slice Ae 32 ce, .slice Ai 32 ci, vc]
  ch : Chs w0 w.heap.size wr vc M
  kk : Kp w0 wr (.slice A 32 c) k
  ke : Kp w0 wr (.slice Ae 32 ce) ex
  ki : Kp w0 wr (.slice Ai 32 ci) ini
  fn : FN w.heap.size w wr
section
variable {w : World} {A Ae Ai : Option Addr} {c ce ci : Nat} {k ex ini : List UInt8} {vc : Value} {M : List BRow} {wr wr' : World}
theorem BI.fs (h : BI w0 w p A Ae Ai c ce ci k ex ini vc M wr) (f : FS wr wr') : BI w0 w p A Ae Ai c ce ci k ex ini vc M wr' :=
  ⟨f _ _ _ (by decide) (by decide) (by decide) h.q1, f _ _ _ (by decide) (by decide) (by decide) h.q2, f _ _ _ (by decide) (by decide) (by decide) h.pb, h.ch.fs f, h.kk.fr (FR.fs f), h.ke.fr (FR.fs f), h.ki.fr (FR.fs f), h.fn.trans (FN.fs f)⟩
theorem BI.push (S : Sui w0 p) {s : S.σ} {m : Nat} (h : BI w0 w p A Ae Ai c ce ci k ex ini vc M wr) (hs : S.St wr s m) (hw : w0.heap.size ≤ w.heap.size) {x : BRow} (hx : x.n = 32) (kx : Kp w0 wr x.v x.l) {v' : Value}
    (ho : Own (cutW wr w.heap.size) wr' 50 3 v' (M.length + 1) (M.flatMap chC ++ chC x)) (hk : Kept wr wr' vc v') :
    Blk wr' (w.heap.size + 1 + 1) 30 [.slice Ae 32 ce, .slice Ai 32 ci, vc] ∧ BI w0 w p A Ae Ai c ce ci k ex ini v' (M ++ [x]) (wr'.setCell ⟨w.heap.size + 1 + 1, 2, none⟩ v') ∧ S.St (wr'.setCell ⟨w.heap.size + 1 + 1, 2, none⟩ v') s m := by
  have hlt : w.heap.size ≤ wr.heap.size := Nat.le_of_lt (Nat.lt_of_le_of_lt (Nat.le_add_right _ 2) h.pb.lt)
  have b1 : Below w.heap.size wr wr' := below_cut hlt (by have := ho.2; rwa [cutW_size hlt] at this) hk.2.1
  have c1 : OC wr wr' := OC.push (.inl rfl) h.ch.1 hk
  have pb := keptBlk h.ch.1 hk h.pb (by decide)
  have q1 := keptBlk h.ch.1 hk h.q1 (by decide)
  have q2 := keptBlk h.ch.1 hk h.q2 (by decide)
  have b2 : Below w.heap.size wr' (wr'.setCell ⟨w.heap.size + 1 + 1, 2, none⟩ v') := (Below.refl _ _).setCell (p := ⟨w.heap.size + 1 + 1, 2, none⟩) (by show w.heap.size ≤ w.heap.size + 1 + 1; omega) _
  have c2 : OC wr' (wr'.setCell ⟨w.heap.size + 1 + 1, 2, none⟩ v') := OC.one (.inr (.inl rfl)) pb (by simp [World.setCell]) (fun b _ hne => Below.heap_setCell wr' ⟨w.heap.size + 1 + 1, 2, none⟩ v' b hne)
  have f12 : FR wr (wr'.setCell ⟨w.heap.size + 1 + 1, 2, none⟩ v') := (FR.oc c1).trans (FR.oc c2)
  have hrow : wr'.ownsRow w.heap.size 50 3 v' (M ++ [x]).length ((M ++ [x]).flatMap chC) := by
    have := ho.1
    rw [cutW_size hlt] at this
    rw [List.length_append, List.flatMap_append, List.flatMap_singleton]
    exact this
  refine ⟨pb, ⟨blk_set_far pb (by decide) _ _ q1, blk_set_far pb (by decide) _ _ q2, pb.set 2 _, ⟨ownsRow_of_blk (blk_set_far pb (by decide)) hrow, fun y hy => ?_⟩, h.kk.fr f12, h.ke.fr f12, h.ki.fr f12, h.fn.trans (FN.below (b1.trans b2))⟩, ?_⟩
  · rcases List.mem_append.1 hy with hy | hy
    · exact ⟨(h.ch.2 y hy).1, (h.ch.2 y hy).2.fr f12⟩
    · obtain rfl := List.mem_singleton.1 hy
      exact ⟨hx, kx.fr f12⟩
  · have hb := S.below hs
    have h3 := hb.trans (b1.mono hw)
    exact S.oc (S.oc hs c1 h3) c2 (h3.trans (b2.mono hw))
end
theorem bSize : (Tryz.prog.info? 30).map (·.size) = some 3 := by kernel_rfl
/-- A row is stored as it was. -/
theorem row_same {w : World} {g : Nat} {t : TypeId} {cs : List Value} (h : Blk w g t cs) : FS w (w.setRow g cs.toArray) := fun b t' cs' _ _ _ hb => by
  by_cases e : b = g
  · subst e
    have h1 : w.heap[b]? = some (.cells cs.toArray t (0, 0)) := h
    have h2 : w.heap[b]? = some (.cells cs'.toArray t' (0, 0)) := hb
    have h3 : (w.setRow b cs.toArray).heap[b]? = _ := setRow_heap w b cs.toArray _ _ _ h1
    rw [h1] at h2
    injection h2 with h2
    injection h2 with e1 e2
    subst e2
    show (w.setRow b cs.toArray).heap[b]? = _
    rw [h3, e1]
  · exact (setRow_other w g b _ e).trans hb
set_option maxRecDepth 100000 in
set_option maxHeartbeats 1000000 in
theorem born_any {w0 w : World} {p : Nat} (S : Sui w0 p) (s : S.σ) (m snd : Nat) (v : Value) (k : List UInt8) (h1 : 1 ≤ snd) (h4 : snd ≤ 4) (h : S.St w s (m + snd + 2)) (hk : Kp w0 w v k) (h32 : k.length = 32) :
    Calls Tryz.prog 9 #[.pointer (some ⟨p, 0, none⟩), v, .int .i64 (snd : Int)] w (RetB S w (bornS S s k snd) m) := by
  have HK0 := Lib.hid hk
  obtain ⟨A, c, rfl, hb, _⟩ := hk.at (S.below h)
  rw [h32] at hb HK0 ⊢
  clear hk
  obtain ⟨W, hW⟩ : ∃ W, W = ((w.alloc (.cells #[.pointer (some ⟨p, 0, none⟩)] 24)).alloc (.cells #[.slice A 32 c] 22)).alloc (.cells #[.slice none 0 0, .slice none 0 0, .slice none 0 0] 30) := ⟨_, rfl⟩
  have hGW : Gr w W := by rw [hW]; exact ((Gr.alloc _ _).trans (Gr.alloc _ _)).trans (Gr.alloc _ _)
  have hzW : W.heap.size = w.heap.size + 1 + 1 + 1 := by rw [hW]; simp
  have b1 : Blk W w.heap.size 24 [.pointer (some ⟨p, 0, none⟩)] := by rw [hW]; exact ((Blk.new w 24 #[.pointer (some ⟨p, 0, none⟩)]).alloc _).alloc _
  have b2 : Blk W (w.heap.size + 1) 22 [.slice A 32 c] := by
    rw [hW]
    exact Blk.alloc (cs := [.slice A 32 c]) (heap_alloc2_new w _ _) _
  have b3 : Blk W (w.heap.size + 1 + 1) 30 [.slice none 0 0, .slice none 0 0, .slice none 0 0] := by
    rw [hW]
    have := heap_alloc2_new (w.alloc (.cells #[.pointer (some ⟨p, 0, none⟩)] 24)) (.cells #[.slice A 32 c] 22) (.cells #[.slice none 0 0, .slice none 0 0, .slice none 0 0] 30)
    rw [show (w.alloc (.cells #[.pointer (some ⟨p, 0, none⟩)] 24)).heap.size = w.heap.size + 1 by simp] at this
    exact this
  have HW := Lib.hid hW; have HGW := Lib.hid hGW; have HZ := Lib.hid hzW; have B1 := Lib.hid b1; have B2 := Lib.hid b2; have B3 := Lib.hid b3
  have HS := Lib.hid (S.gr h hGW); have HK := Lib.hid (HK0.out.fr (FR.gr hGW)); have HB0 := Lib.hid (S.below h)
  have hrow := row1_sl W ⟨A, 32, c, k⟩ 22
  rw [hzW] at hrow
  have HWY := Lib.hid (why_any p (snd : Int) (some ⟨w.heap.size + 1 + 1 + 1, 0, none⟩) 1 1 [⟨A, 32, c, k⟩] (W.alloc (.cells #[.slice A 32 c] 22)) hrow)
  clear hrow
  rw [why_ok snd h1 h4 _ (fun x hx => by rw [List.mem_singleton.1 hx])] at HWY
  have HG4 := Lib.hid (Gr.alloc W (.cells #[.slice A 32 c] 22))
  have H32 := Lib.hid h32
  have y1 : W.cell? ⟨w.heap.size, 0, none⟩ = some (.pointer (some ⟨p, 0, none⟩)) := (b1.cell 0).trans rfl
  have y2 : W.cell? ⟨w.heap.size + 1, 0, none⟩ = some (.slice A 32 c) := (b2.cell 0).trans rfl
  clear h hb hW hGW hzW b1 b2 b3 HK0
  go_enter Tryz.func9, Tryz.ntmps9
  go_wp2_with fail
  rw [← HW.out]
  refine HWY.out.mono ?_
  rintro e w1 ⟨rfl, g1⟩
  have G1 : Hid (Gr W w1) := HG4.out.trans g1
  clear g1 y1 y2
  go_wp2_with fail
  have S1 := Lib.hid (S.gr HS.out G1.out)
  have K1 := Lib.hid (HK.out.fr (FR.gr G1.out))
  refine (bornf_any S s (m + snd + 1) w.heap.size (w.heap.size + 1) (.slice A 32 c) k exS S1.out K1.out (((G1.out.blk B1.out).cell 0).trans rfl) (((G1.out.blk B2.out).cell 0).trans rfl) (by have := H32.out; omega) (by decide)).mono ?_
  rintro e w2 ⟨ve, rfl, ke, s2, f2⟩
  obtain ⟨Ae, ce, rfl⟩ := ke.sl (S.dvLen _ _ _)
  have KE := Lib.hid ke; have S2 := Lib.hid s2; have F2 := Lib.hid f2; clear ke s2 f2
  go_wp2_with fail
  refine (bornf_any S _ (m + snd) w.heap.size (w.heap.size + 1) (.slice A 32 c) k inS S2.out (K1.out.fr (FR.fs F2.out)) (((F2.out _ _ _ (by decide) (by decide) (by decide) (G1.out.blk B1.out)).cell 0).trans rfl) (((F2.out _ _ _ (by decide) (by decide) (by decide) (G1.out.blk B2.out)).cell 0).trans rfl) (by have := H32.out; omega) (by decide)).mono ?_
  rintro e w3 ⟨vi, rfl, ki, s3, f3⟩
  obtain ⟨Ai, ci, rfl⟩ := ki.sl (S.dvLen _ _ _)
  have F13 : Hid (FS w1 w3) := F2.out.trans f3
  have KE3 := Lib.hid (KE.out.fr (FR.fs f3)); have KI := Lib.hid ki; have S3 := Lib.hid s3
  have P3 := Lib.hid (F13.out _ _ _ (by decide) (by decide) (by decide) (G1.out.blk B3.out))
  clear ki s3 f3 KE
  have e0 : w3.cell? ⟨w.heap.size + 1 + 1, 0, none⟩ = some (.slice none 0 0) := (P3.out.cell 0).trans rfl
  have e1 : w3.cell? ⟨w.heap.size + 1 + 1, 1, none⟩ = some (.slice none 0 0) := (P3.out.cell 1).trans rfl
  have r0 := P3.out.free 0
  have r1 := P3.out.free 1
  go_wp2_with fail
  have P4 : Hid (Blk ((w3.setCell ⟨w.heap.size + 1 + 1, 0, none⟩ (.slice Ae 32 ce)).setCell ⟨w.heap.size + 1 + 1, 1, none⟩ (.slice Ai 32 ci)) (w.heap.size + 1 + 1) 30 [.slice Ae 32 ce, .slice Ai 32 ci, .slice none 0 0]) := (P3.out.set 0 _).set 1 _
  obtain ⟨w4, hw4⟩ : ∃ w4, w4 = (w3.setCell ⟨w.heap.size + 1 + 1, 0, none⟩ (.slice Ae 32 ce)).setCell ⟨w.heap.size + 1 + 1, 1, none⟩ (.slice Ai 32 ci) := ⟨_, rfl⟩
  rw [← hw4] at P4 ⊢
  have OTH : Hid (∀ b, b ≠ w.heap.size + 1 + 1 → w4.heap[b]? = w3.heap[b]?) := fun b hb => by rw [hw4]; exact (Below.heap_setCell _ ⟨w.heap.size + 1 + 1, 1, none⟩ _ b hb).trans (Below.heap_setCell _ ⟨w.heap.size + 1 + 1, 0, none⟩ _ b hb)
  have SZ4 : Hid (w4.heap.size = w3.heap.size) := by rw [hw4]; show _ = _; simp [World.setCell]
  have BW4 : Hid (Below w.heap.size w3 w4) := by rw [hw4]; exact ((Below.refl _ _).setCell (p := ⟨w.heap.size + 1 + 1, 0, none⟩) (by show w.heap.size ≤ w.heap.size + 1 + 1; omega) _).setCell (p := ⟨w.heap.size + 1 + 1, 1, none⟩) (by show w.heap.size ≤ w.heap.size + 1 + 1; omega) _
  have OC4 : Hid (OC w3 w4) := OC.one (.inr (.inl rfl)) P3.out (by rw [SZ4.out]; exact Nat.le_refl _) (fun b _ hne => OTH.out b hne)
  have hst := S.below S3.out
  have S4 := Lib.hid (S.oc S3.out OC4.out (hst.trans (BW4.out.mono HB0.out.size)))
  have BI4 : Hid (BI w0 w p A Ae Ai c ce ci k (S.dv s k exS).2 (S.dv (S.dv s k exS).1 k inS).2 (.slice none 0 0) [] w4) := by
    refine ⟨(OTH.out _ (by omega)).trans (F13.out _ _ _ (by decide) (by decide) (by decide) (G1.out.blk B1.out)), (OTH.out _ (by omega)).trans (F13.out _ _ _ (by decide) (by decide) (by decide) (G1.out.blk B2.out)), P4.out, Chs.nil _ _, (K1.out.fr (FR.fs F13.out)).fr (FR.oc OC4.out), KE3.out.fr (FR.oc OC4.out), KI.out.fr (FR.oc OC4.out), ?_⟩
    exact (FN.fs ((FS.gr (HGW.out.trans G1.out)).trans F13.out)).trans (FN.below BW4.out)
  clear hw4 OTH SZ4 BW4 OC4 e0 e1 r0 r1 hst P3 KE3 KI P4 S1 S2 S3 F13 F2 K1 G1
  obtain ⟨σ2, hσ⟩ : ∃ σ2, σ2 = (S.dv (S.dv s k exS).1 k inS).1 := ⟨_, rfl⟩
  rw [← hσ] at S4
  have HSG := Lib.hid hσ; clear hσ
  go_wp2_with fail
  go_loopw [28] (fun i wr => ∃ (j : Nat) (vc : Value) (M : List BRow), j ≤ snd ∧ i = .int .i64 (j : Int) ∧ BI w0 w p A Ae Ai c ce ci k (S.dv s k exS).2 (S.dv (S.dv s k exS).1 k inS).2 vc M wr ∧ M.map BRow.l = (chS S k σ2 j).2 ∧ S.St wr (chS S k σ2 j).1 (m + (snd - j))) (fun i _ => snd - (Go.RowKit.intOf i).toNat)
  case atStart => exact ⟨0, _, [], Nat.zero_le _, rfl, BI4.out, rfl, S4.out⟩
  case round =>
    obtain ⟨j, vc, M, hj, rfl, hbi, hml, hst⟩ := hrel
    have BI := Lib.hid hbi; have ML := Lib.hid hml; have ST := Lib.hid hst
    by_cases hlt : j < snd
    · have x2 : wr.cell? ⟨w.heap.size + 1 + 1, 2, none⟩ = some vc := (hbi.pb.cell 2).trans rfl
      have hlt2 : (j : Int) < snd := by omega
      clear hbi hml hst
      go_upto_region 9 with fail
      refine wp_region_pre (by kernel_rfl) (fun w' => w'.cell? ⟨w.heap.size + 1 + 1, 2, none⟩ = some vc) (fun i => i == 1) (fun i => Nat.ble 8 i) [0, 2, 3, 1] 7 (by kernel_rfl) (by kernel_rfl) (by kernel_rfl) x2 ?_
      refine wpPre_e rfl rfl ?_
      apply Exists.intro
      refine ⟨fun wq hq => ?_, ?_⟩
      · clear hq
        unfold plainAt
        go_simp
        first | exact rfl | exact ⟨rfl, rfl⟩
      go_simp
      refine wpPre_e rfl rfl ?_
      apply Exists.intro
      refine ⟨fun wq hq => ?_, ?_⟩
      · clear hq
        unfold plainAt
        go_simp
        first | exact rfl | exact ⟨rfl, rfl⟩
      go_simp
      refine wpPre_e rfl rfl ?_
      apply Exists.intro
      refine ⟨fun wq hq => ?_, ?_⟩
      · clear hq
        unfold plainAt
        go_simp
        first | exact rfl | exact ⟨rfl, rfl⟩
      go_simp
      refine wpPre_e rfl rfl ?_
      apply Exists.intro
      refine ⟨fun wq hq => ?_, ?_⟩
      · replace hq := hq rfl
        have z0 := hq
        unfold plainAt
        go_simp
        first | exact rfl | exact ⟨rfl, rfl⟩
      go_simp
      refine wpPre_nil ?_
      have z0' : wr.drew.cell? ⟨w.heap.size + 1 + 1, 2, none⟩ = some vc := x2
      clear x2
      refine wpRest_one (i := 4) (by kernel_rfl) rfl rfl ?_
      intro K hK
      go_simp
      go_at_call 23
      refine (label_any j (by omega) wr.drew).mono ?_
      rintro e w5 ⟨rfl, h5⟩
      obtain rfl : wr.drew = w5 := h5
      refine hK _ _ (fun _ => z0') ?_
      clear hK
      go_simp
      refine wpRest_one (i := 5) (by kernel_rfl) rfl rfl ?_
      intro K hK
      go_simp
      go_at_call 28
      have BID := Lib.hid (BI.out.fs (FS.gr (Gr.drew wr)))
      have STD := Lib.hid (S.gr ST.out (Gr.drew wr))
      refine (bornf_any S _ (m + (snd - (j + 1))) w.heap.size (w.heap.size + 1) (.slice A 32 c) k (senderS j) (S.less STD.out (by omega)) BID.out.kk ((BID.out.q1.cell 0).trans rfl) ((BID.out.q2.cell 0).trans rfl) (by have := H32.out; omega) (by unfold senderS; rw [List.length_append]; have := dec_len2 j (by omega); simp; omega)).mono ?_
      rintro e w6 ⟨vd, rfl, kd, s6, f6⟩
      obtain ⟨Ad, cd, rfl⟩ := kd.sl (S.dvLen _ _ _)
      have KD := Lib.hid kd; have S6 := Lib.hid s6; have BI6 := Lib.hid (BID.out.fs f6)
      have DL := Lib.hid (S.dvLen (chS S k σ2 j).1 k (senderS j))
      clear kd s6 f6 BID STD
      have z6 : w6.cell? ⟨w.heap.size + 1 + 1, 2, none⟩ = some vc := (BI6.out.pb.cell 2).trans rfl
      refine hK _ _ (fun _ => z6) ?_
      clear hK z0'
      go_simp
      refine wpRest_one (i := 6) (by kernel_rfl) rfl rfl ?_
      intro K hK
      go_simp
      go_at_call 29
      obtain ⟨A', c', e', hbd, _⟩ := KD.out.at (S.below S6.out)
      injection e' with e1 e2 e3
      subst e1 e3
      rw [← e2] at hbd
      have ST7 := Lib.hid (startO_any Ad 32 cd (S.dv (chS S k σ2 j).1 k (senderS j)).2 w6 hbd (by omega))
      clear hbd e2
      refine ST7.out.mono ?_
      rintro e w7 ⟨vs, rfl, o7⟩
      rw [DL.out] at o7
      obtain ⟨As, cs, rfl, _⟩ := o7.slice
      have G7 : Hid (Gr w6 w7) := o7.below
      have K7 := Lib.hid (Kp.own (o7.base (S.below S6.out)) DL.out.symm)
      have BI7 := Lib.hid (BI6.out.fs (FS.gr G7.out)); have S7 := Lib.hid (S.gr S6.out G7.out)
      clear o7 ST7 z6 KD
      have z7 : w7.cell? ⟨w.heap.size + 1 + 1, 2, none⟩ = some vc := (BI7.out.pb.cell 2).trans rfl
      refine hK _ _ (fun _ => z7) ?_
      clear hK
      go_simp
      refine wpRest_one (i := 7) (by kernel_rfl) rfl rfl ?_
      intro K hK
      go_simp
      have BI8 := Lib.hid (BI7.out.fs (FS.gr (Gr.alloc w7 (.cells #[.int .i64 0, .slice As 32 cs, .slice none 0 0] 50))))
      have S8 := Lib.hid (S.gr S7.out (Gr.alloc w7 (.cells #[.int .i64 0, .slice As 32 cs, .slice none 0 0] 50)))
      have K8 := Lib.hid (K7.out.fr (FR.gr (Gr.alloc w7 (.cells #[.int .i64 0, .slice As 32 cs, .slice none 0 0] 50))))
      have N8 : Hid (Blk (w7.alloc (.cells #[.int .i64 0, .slice As 32 cs, .slice none 0 0] 50)) w7.heap.size 50 [.int .i64 0, .slice As 32 cs, .slice none 0 0]) := Blk.new _ _ _
      have z8 : (w7.alloc (.cells #[.int .i64 0, .slice As 32 cs, .slice none 0 0] 50)).cell? ⟨w.heap.size + 1 + 1, 2, none⟩ = some vc := (BI8.out.pb.cell 2).trans rfl
      generalize hW8 : w7.alloc (.cells #[.int .i64 0, .slice As 32 cs, .slice none 0 0] 50) = w8 at *
      refine hK _ _ (fun _ => z8) ?_
      clear hK z7 BI7 S7 K7 G7 BI6 S6
      go_simp
      refine wpRest_one (i := 8) (by kernel_rfl) rfl rfl ?_
      intro K hK
      have hB8 : w.heap.size ≤ w8.heap.size := by have := BI8.out.pb.lt; omega
      have HML := Lib.hid (congrArg List.length ML.out)
      refine wp_pushG (.tmp 32) (.tmp 38) 28 rfl tChain rfl (BI8.out.ch.cut hB8) _ _ (chC ⟨As, 32, cs, (S.dv (chS S k σ2 j).1 k (senderS j)).2⟩) rfl rfl (chC_one _) (fun i u hu => by rw [N8.out.cell]; exact hu) (by have h := HML.out; rw [List.length_map, chS_len] at h; omega) ?_
      intro v9 w9 own9 kept9
      obtain ⟨P9, BI9, S9⟩ := BI8.out.push S S8.out HB0.out.size (x := ⟨As, 32, cs, (S.dv (chS S k σ2 j).1 k (senderS j)).2⟩) rfl K8.out own9 kept9
      obtain ⟨A9, c9, rfl⟩ := BI9.ch.sl
      simp only [List.length_append, List.length_cons, List.length_nil, Nat.zero_add] at BI9 S9
      have PB9 := Lib.hid P9; have BIN := Lib.hid BI9; have SN := Lib.hid S9
      clear P9 BI9 S9 own9 kept9 hB8
      have z9 : w9.cell? ⟨w.heap.size + 1 + 1, 2, none⟩ = some vc := (PB9.out.cell 2).trans rfl
      have r9 := PB9.out.free 2
      refine hK _ _ (fun q => by cases q) ?_
      clear hK z8
      go_simp
      refine wpRest_one (i := 9) (by kernel_rfl) rfl rfl ?_
      intro K hK
      go_simp
      refine hK _ _ (fun q => by cases q) ?_
      clear hK
      go_simp
      refine wpRest_one (i := 10) (by kernel_rfl) rfl rfl ?_
      intro K hK
      go_simp
      refine hK _ _ (fun q => by cases q) ?_
      clear hK
      go_simp
      refine wpRest_nil (by kernel_rfl) ?_
      clear z9 r9
      go_wp2_with fail
      go_roundw
      case rel => exact ⟨j + 1, _, M ++ [⟨As, 32, cs, (S.dv (chS S k σ2 j).1 k (senderS j)).2⟩], by omega, by go_num, BIN.out, by rw [List.map_append, ML.out]; rfl, SN.out⟩
      case measure => simp [Go.RowKit.intOf]; omega
    · obtain rfl : j = snd := by omega
      obtain ⟨Ac, cc, rfl⟩ := hbi.ch.sl
      have n0 : wr.cell? ⟨w.heap.size + 1 + 1, 0, none⟩ = some (.slice Ae 32 ce) := (hbi.pb.cell 0).trans rfl
      have n1 : wr.cell? ⟨w.heap.size + 1 + 1, 1, none⟩ = some (.slice Ai 32 ci) := (hbi.pb.cell 1).trans rfl
      have n2 : wr.cell? ⟨w.heap.size + 1 + 1, 2, none⟩ = some (.slice Ac M.length cc) := (hbi.pb.cell 2).trans rfl
      have FSR : Hid (FS wr (wr.setRow (w.heap.size + 1 + 1) #[.slice Ae 32 ce, .slice Ai 32 ci, .slice Ac M.length cc])) := row_same hbi.pb
      have BWR : Hid (Below w.heap.size wr (wr.setRow (w.heap.size + 1 + 1) #[.slice Ae 32 ce, .slice Ai 32 ci, .slice Ac M.length cc])) := below_row (Below.refl _ _) (by omega) _
      have OCR : Hid (OC wr (wr.setRow (w.heap.size + 1 + 1) #[.slice Ae 32 ce, .slice Ai 32 ci, .slice Ac M.length cc])) := OC.one (.inr (.inl rfl)) hbi.pb BWR.out.size (fun b _ hne => setRow_other wr (w.heap.size + 1 + 1) b _ hne)
      have SR := Lib.hid (S.oc ST.out OCR.out ((S.below ST.out).trans (BWR.out.mono HB0.out.size)))
      have BIR := Lib.hid (BI.out.fs FSR.out)
      clear hbi hml hst
      go_wp2_with (refine wpList_store_row rfl 30 (.tmp 6) (.tmp 42) rfl (w.heap.size + 1 + 1) #[.slice Ae 32 ce, .slice Ai 32 ci, .slice Ac M.length cc] rfl rfl 30 #[.slice Ae 32 ce, .slice Ai 32 ci, .slice Ac M.length cc] BI.out.pb bSize rfl (by simp [Value.oneCell']) ?_)
      generalize wr.setRow (w.heap.size + 1 + 1) #[.slice Ae 32 ce, .slice Ai 32 ci, .slice Ac M.length cc] = w5 at *
      have q0 : w5.cell? ⟨w.heap.size + 1 + 1, 0, none⟩ = some (.slice Ae 32 ce) := (BIR.out.pb.cell 0).trans rfl
      have q1 : w5.cell? ⟨w.heap.size + 1 + 1, 1, none⟩ = some (.slice Ai 32 ci) := (BIR.out.pb.cell 1).trans rfl
      have q2 : w5.cell? ⟨w.heap.size + 1 + 1, 2, none⟩ = some (.slice Ac M.length cc) := (BIR.out.pb.cell 2).trans rfl
      have FIN : Hid (RetB S w (bornS S s k j) m (.returned (.tuple #[.agg #[.slice Ae 32 ce, .slice Ai 32 ci, .slice Ac M.length cc], .int .i64 0])) w5) := ⟨_, _, _, M, rfl, BIR.out.ke, BIR.out.ki, BIR.out.ch, by rw [ML.out, HSG.out]; rfl, by have h := SR.out; rw [HSG.out, Nat.sub_self] at h; exact h, BIR.out.fn.toFs⟩
      exact bodyPost_ret (v := .tuple #[.agg #[.slice Ae 32 ce, .slice Ai 32 ci, .slice Ac M.length cc], .int .i64 0]) (by simp [results, Tryz.results9, go_sem, q0, q1, q2]) rfl FIN.out
end
end Go.Proofs.YthlnoaalhojphaaGreatDoor
/- Epochs: First and Next, of whatever suite. No condition. -/
namespace Go.Proofs.YthlnoaalhojphaaGreatDoor
open Go.RowKit
set_option linter.unusedVariables false
section
variable {w0 : World} {p : Nat}
/-- A birth is stored in a cell of the call's own. -/
theorem retB_store (S : Sui w0 p) {w w3 : World} {r : S.σ × Brt} {m g : Nat} {ve vi vc : Value} {M : List BRow} {old : List Value} (hw : w0.heap.size ≤ w.heap.size) (hB : w.heap.size ≤ g) (pb : Blk w3 g 30 old) (ke : Kp w0 w3 ve r.2.ex) (ki : Kp w0 w3 vi r.2.ini) (ch : Chs w0 w.heap.size w3 vc M) (ml : M.map BRow.l = r.2.ch) (st : S.St w3 r.1 m) (fn : FN w.heap.size w w3) :
    RetB S w r m (.returned (.tuple #[.agg #[ve, vi, vc], .int .i64 0])) (w3.setRow g #[ve, vi, vc]) := by
  have bw : Below w.heap.size w3 (w3.setRow g #[ve, vi, vc]) := below_row (Below.refl _ _) hB _
  have oc : OC w3 (w3.setRow g #[ve, vi, vc]) := OC.one (.inr (.inl rfl)) pb bw.size (fun b _ hne => setRow_other w3 g b _ hne)
  have h1 : w3.heap[g]? = some (.cells old.toArray 30 (0, 0)) := pb
  refine ⟨ve, vi, vc, M, rfl, ke.fr (FR.oc oc), ki.fr (FR.oc oc), ch.far (fun b cs hb => ?_) (FR.oc oc), ml, S.oc st oc ((S.below st).trans (bw.mono hw)), (fn.trans (FN.below bw)).toFs⟩
  refine (setRow_other w3 g b _ (fun e => ?_)).trans hb
  subst e
  have h2 : w3.heap[b]? = some (.cells cs.toArray 50 (0, 0)) := hb
  rw [h1] at h2
  injection h2 with h2
  injection h2 with _ h2
  exact absurd h2 (by decide)
set_option maxRecDepth 100000 in
set_option maxHeartbeats 1000000 in
theorem epFirst_any {w : World} (S : Sui w0 p) (s : S.σ) (m snd : Nat) (v : Value) (k : List UInt8) (h1 : 1 ≤ snd) (h4 : snd ≤ 4) (h : S.St w s (m + snd + 3)) (hk : Kp w0 w v k) (h32 : k.length = 32) :
    Calls Tryz.prog 7 #[.pointer (some ⟨p, 0, none⟩), v, .int .i64 (snd : Int)] w (RetB S w (firstS S s k snd) m) := by
  obtain ⟨A, c, rfl⟩ := hk.sl h32
  have HK0 := Lib.hid hk
  obtain ⟨W, hW⟩ : ∃ W, W = w.alloc (.cells #[.slice none 0 0, .slice none 0 0, .slice none 0 0] 30) := ⟨_, rfl⟩
  have hGW : Gr w W := by rw [hW]; exact Gr.alloc _ _
  have hzW : W.heap.size = w.heap.size + 1 := by rw [hW]; simp
  have b3 : Blk W w.heap.size 30 [.slice none 0 0, .slice none 0 0, .slice none 0 0] := by rw [hW]; exact Blk.new w _ _
  have HW := Lib.hid hW; have HGW := Lib.hid hGW; have B3 := Lib.hid b3; have HB0 := Lib.hid (S.below h)
  have HS := Lib.hid (S.gr h hGW)
  have hrow := row1_sl W ⟨A, 32, c, k⟩ 22
  rw [hzW] at hrow
  have HWY := Lib.hid (why_any p (snd : Int) (some ⟨w.heap.size + 1, 0, none⟩) 1 1 [⟨A, 32, c, k⟩] (W.alloc (.cells #[.slice A 32 c] 22)) hrow)
  rw [why_ok snd h1 h4 _ (fun x hx => by rw [List.mem_singleton.1 hx])] at HWY
  have HG4 := Lib.hid (Gr.alloc W (.cells #[.slice A 32 c] 22))
  have H32 := Lib.hid h32
  clear h hk hrow hW hGW hzW b3
  go_enter Tryz.func7, Tryz.ntmps7
  go_wp2_with fail
  rw [← HW.out]
  refine HWY.out.mono ?_
  rintro e w1 ⟨rfl, g1⟩
  have G1 : Hid (Gr W w1) := HG4.out.trans g1
  clear g1 HWY
  go_wp2_with fail
  have S1 := Lib.hid (S.gr HS.out G1.out)
  obtain ⟨A', c', e', hb, _⟩ := (HK0.out.fr (FR.gr (HGW.out.trans G1.out))).at (S.below S1.out)
  rw [H32.out] at hb e'
  injection e' with e1 e2 e3
  subst e1 e3
  have HD := Lib.hid (S.derive w1 s (m + snd + 2) A 32 c k joinS S1.out hb (by omega) (by decide))
  clear hb e2
  refine HD.out.mono ?_
  rintro e w2 ⟨vd, rfl, kd, s2, f2⟩
  obtain ⟨Ad, cd, rfl⟩ := kd.sl (S.dvLen _ _ _)
  have KD := Lib.hid kd; have S2 := Lib.hid s2; have F2 := Lib.hid f2
  clear kd s2 f2 HD
  have PBO := Lib.hid (F2.out _ _ _ (by decide) (by decide) (by decide) (G1.out.blk B3.out))
  have FNO : Hid (FN w.heap.size w w2) := FN.fs ((FS.gr (HGW.out.trans G1.out)).trans F2.out)
  go_wp2_with fail
  refine (born_any S _ m snd (.slice Ad 32 cd) _ h1 h4 S2.out KD.out (S.dvLen _ _ _)).mono ?_
  rintro e w3 ⟨ve, vi, vc, M, rfl, ke, ki, ch, ml, st, fs⟩
  obtain ⟨Ae, ce, rfl⟩ := ke.sl (S.dvLen _ _ _)
  obtain ⟨Ai, ci, rfl⟩ := ki.sl (S.dvLen _ _ _)
  obtain ⟨Ac, cc, rfl⟩ := ch.sl
  have KE := Lib.hid ke; have KI := Lib.hid ki; have CH := Lib.hid ch; have ML := Lib.hid ml; have ST := Lib.hid st; have FSW := Lib.hid fs
  clear ke ki ch ml st fs
  have PB := Lib.hid (FSW.out _ _ _ (by decide) (by decide) (by decide) PBO.out)
  go_wp2_with (refine wpList_store_row rfl 30 (.tmp 6) (.tmp 24) rfl w.heap.size #[.slice Ae 32 ce, .slice Ai 32 ci, .slice Ac M.length cc] rfl rfl 30 #[.slice none 0 0, .slice none 0 0, .slice none 0 0] PB.out bSize rfl (by simp [Value.oneCell']) ?_)
  have PBN : Blk (w3.setRow w.heap.size #[.slice Ae 32 ce, .slice Ai 32 ci, .slice Ac M.length cc]) w.heap.size 30 [.slice Ae 32 ce, .slice Ai 32 ci, .slice Ac M.length cc] := setRow_heap w3 w.heap.size _ _ _ _ PB.out
  have FIN := Lib.hid (retB_store S HB0.out.size (Nat.le_refl _) PB.out KE.out KI.out (CH.out.less (Nat.le_of_lt PBO.out.lt)) ML.out ST.out (FNO.out.trans (FN.fs FSW.out)))
  generalize w3.setRow w.heap.size #[.slice Ae 32 ce, .slice Ai 32 ci, .slice Ac M.length cc] = w9 at *
  have q0 : w9.cell? ⟨w.heap.size, 0, none⟩ = some (.slice Ae 32 ce) := (PBN.cell 0).trans rfl
  have q1 : w9.cell? ⟨w.heap.size, 1, none⟩ = some (.slice Ai 32 ci) := (PBN.cell 1).trans rfl
  have q2 : w9.cell? ⟨w.heap.size, 2, none⟩ = some (.slice Ac M.length cc) := (PBN.cell 2).trans rfl
  exact bodyPost_ret (v := .tuple #[.agg #[.slice Ae 32 ce, .slice Ai 32 ci, .slice Ac M.length cc], .int .i64 0]) (by simp [results, Tryz.results7, go_sem, q0, q1, q2]) rfl FIN.out
set_option maxRecDepth 100000 in
set_option maxHeartbeats 1000000 in
theorem epNext_any {w : World} (S : Sui w0 p) (s : S.σ) (m snd : Nat) (vi v : Value) (i k : List UInt8) (h1 : 1 ≤ snd) (h4 : snd ≤ 4) (h : S.St w s (m + snd + 4)) (hi : Kp w0 w vi i) (hk : Kp w0 w v k) (hi32 : i.length = 32) (h32 : k.length = 32) :
    Calls Tryz.prog 8 #[.pointer (some ⟨p, 0, none⟩), vi, v, .int .i64 (snd : Int)] w (RetB S w (nextS S s i k snd) m) := by
  obtain ⟨A, c, rfl⟩ := hk.sl h32
  obtain ⟨B, d, rfl⟩ := hi.sl hi32
  have HK0 := Lib.hid hk; have HI0 := Lib.hid hi
  obtain ⟨W, hW⟩ : ∃ W, W = w.alloc (.cells #[.slice none 0 0, .slice none 0 0, .slice none 0 0] 30) := ⟨_, rfl⟩
  have hGW : Gr w W := by rw [hW]; exact Gr.alloc _ _
  have hzW : W.heap.size = w.heap.size + 1 := by rw [hW]; simp
  have b3 : Blk W w.heap.size 30 [.slice none 0 0, .slice none 0 0, .slice none 0 0] := by rw [hW]; exact Blk.new w _ _
  have HW := Lib.hid hW; have HGW := Lib.hid hGW; have B3 := Lib.hid b3; have HB0 := Lib.hid (S.below h)
  have HS := Lib.hid (S.gr h hGW)
  have hrow := row2_sl W ⟨B, 32, d, i⟩ ⟨A, 32, c, k⟩ 22
  rw [hzW] at hrow
  have HWY := Lib.hid (why_any p (snd : Int) (some ⟨w.heap.size + 1, 0, none⟩) 2 2 [⟨B, 32, d, i⟩, ⟨A, 32, c, k⟩] (W.alloc (.cells #[.slice B 32 d, .slice A 32 c] 22)) hrow)
  rw [why_ok snd h1 h4 _ (fun x hx => by rcases List.mem_cons.1 hx with rfl | hx; rfl; rw [List.mem_singleton.1 hx])] at HWY
  have HG4 := Lib.hid (Gr.alloc W (.cells #[.slice B 32 d, .slice A 32 c] 22))
  have H32 := Lib.hid h32; have HI32 := Lib.hid hi32
  clear h hk hi hrow hW hGW hzW b3
  go_enter Tryz.func8, Tryz.ntmps8
  go_wp2_with fail
  rw [← HW.out]
  refine HWY.out.mono ?_
  rintro e w1 ⟨rfl, g1⟩
  have G1 : Hid (Gr W w1) := HG4.out.trans g1
  clear g1 HWY
  go_wp2_with fail
  have S1 := Lib.hid (S.gr HS.out G1.out)
  refine (S.mix w1 s (m + snd + 3) (.slice B 32 d) (.slice A 32 c) i k S1.out (HI0.out.fr (FR.gr (HGW.out.trans G1.out))) (HK0.out.fr (FR.gr (HGW.out.trans G1.out))) (by have := HI32.out; omega) (by have := H32.out; omega)).mono ?_
  rintro e w2 ⟨vx, rfl, kx, s2, f2⟩
  have hxl : (S.mx s i k).2.length = 32 := S.mxLen _ _ _
  obtain ⟨Ax, cx, rfl⟩ := kx.sl hxl
  obtain ⟨A', c', e', hb, _⟩ := kx.at (S.below s2)
  rw [hxl] at hb e'
  injection e' with e1 e2 e3
  subst e1 e3
  have HD := Lib.hid (S.derive w2 _ (m + snd + 2) Ax 32 cx _ joinS s2 hb (by omega) (by decide))
  have F2 := Lib.hid f2
  clear hb e2 kx s2 f2 hxl
  go_wp2_with fail
  refine HD.out.mono ?_
  rintro e w3 ⟨vd, rfl, kd, s3, f3⟩
  obtain ⟨Ad, cd, rfl⟩ := kd.sl (S.dvLen _ _ _)
  have KD := Lib.hid kd; have S3 := Lib.hid s3; have F3 : Hid (FS w1 w3) := F2.out.trans f3
  clear kd s3 f3 HD
  have PBO := Lib.hid (F3.out _ _ _ (by decide) (by decide) (by decide) (G1.out.blk B3.out))
  have FNO : Hid (FN w.heap.size w w3) := FN.fs ((FS.gr (HGW.out.trans G1.out)).trans F3.out)
  go_wp2_with fail
  refine (born_any S _ m snd (.slice Ad 32 cd) _ h1 h4 S3.out KD.out (S.dvLen _ _ _)).mono ?_
  rintro e w4 ⟨ve, vi, vc, M, rfl, ke, ki, ch, ml, st, fs⟩
  obtain ⟨Ae, ce, rfl⟩ := ke.sl (S.dvLen _ _ _)
  obtain ⟨Ai, ci, rfl⟩ := ki.sl (S.dvLen _ _ _)
  obtain ⟨Ac, cc, rfl⟩ := ch.sl
  have KE := Lib.hid ke; have KI := Lib.hid ki; have CH := Lib.hid ch; have ML := Lib.hid ml; have ST := Lib.hid st; have FSW := Lib.hid fs
  clear ke ki ch ml st fs
  have PB := Lib.hid (FSW.out _ _ _ (by decide) (by decide) (by decide) PBO.out)
  go_wp2_with (refine wpList_store_row rfl 30 (.tmp 8) (.tmp 30) rfl w.heap.size #[.slice Ae 32 ce, .slice Ai 32 ci, .slice Ac M.length cc] rfl rfl 30 #[.slice none 0 0, .slice none 0 0, .slice none 0 0] PB.out bSize rfl (by simp [Value.oneCell']) ?_)
  have PBN : Blk (w4.setRow w.heap.size #[.slice Ae 32 ce, .slice Ai 32 ci, .slice Ac M.length cc]) w.heap.size 30 [.slice Ae 32 ce, .slice Ai 32 ci, .slice Ac M.length cc] := setRow_heap w4 w.heap.size _ _ _ _ PB.out
  have FIN := Lib.hid (retB_store S HB0.out.size (Nat.le_refl _) PB.out KE.out KI.out (CH.out.less (Nat.le_of_lt PBO.out.lt)) ML.out ST.out (FNO.out.trans (FN.fs FSW.out)))
  generalize w4.setRow w.heap.size #[.slice Ae 32 ce, .slice Ai 32 ci, .slice Ac M.length cc] = w9 at *
  have q0 : w9.cell? ⟨w.heap.size, 0, none⟩ = some (.slice Ae 32 ce) := (PBN.cell 0).trans rfl
  have q1 : w9.cell? ⟨w.heap.size, 1, none⟩ = some (.slice Ai 32 ci) := (PBN.cell 1).trans rfl
  have q2 : w9.cell? ⟨w.heap.size, 2, none⟩ = some (.slice Ac M.length cc) := (PBN.cell 2).trans rfl
  exact bodyPost_ret (v := .tuple #[.agg #[.slice Ae 32 ce, .slice Ai 32 ci, .slice Ac M.length cc], .int .i64 0]) (by simp [results, Tryz.results8, go_sem, q0, q1, q2]) rfl FIN.out
end
end Go.Proofs.YthlnoaalhojphaaGreatDoor
