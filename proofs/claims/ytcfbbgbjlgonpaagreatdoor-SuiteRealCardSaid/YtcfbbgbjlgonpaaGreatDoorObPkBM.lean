/- Own texts of this claim, one behind the other. No condition. -/
import Derived.Test.YtcfbbgbjlgonpaaGreatDoorObPkAC
import Derived.Test.YtcfbbgbjlgonpaaGreatDoorObPkAJ
import Derived.Test.YtcfbbgbjlgonpaaGreatDoorObPkBD
import Derived.Test.YtcfbbgbjlgonpaaGreatDoorObPkBK
import Derived.Test.YtcfbbgbjlgonpaaGreatDoorObPkBL
import Derived.Test.YtcfbbgbjlgonpaaGreatDoorRows
import Derived.ProofKit
import Derived.Lib.LaidTab
import Derived.Lib.ItoaNum
import Derived.Below
import Derived.Laws.Concat

/- The reference of layer 13: boxes. No condition. -/
namespace Go.Proofs.YtcfbbgbjlgonpaaGreatDoor
open Go.RowKit
set_option linter.unusedVariables false
set_option linter.unusedSimpArgs false
theorem run_loB (g o n c lo : Nat) (h1 : lo ≤ n) (h2 : lo < c) (w : World) : (Instr.slice 28 (.slice (some ⟨g, o, none⟩) n c) (some (.int .i64 (lo : Int))) none none).run Tryz.prog w = .ok (.slice (some ⟨g, o + lo, none⟩) (n - lo) (c - lo)) w := by
  obtain ⟨i, hi, hz, hsz, hby⟩ := info_parts tBytes.info
  have he : Tryz.prog.elem 28 = 5 := by simp [Program.elem, tBytes.und]
  have hu : Tryz.prog.underlying 28 = some (.slice (Tryz.prog.elem 28)) := by rw [he]; exact tBytes.und
  rw [run_slice_l w 28 (some ⟨g, o, none⟩) n c hu .i64 (lo : Int) (by omega) (by omega)]
  have h3 : ¬ c = lo := by omega
  simp [sizeOf, typeInfo, he, hi, Result.andThen, sliced, hsz, add_flat, h3]
theorem run_lhB (g o n c e : Nat) (h1 : 16 ≤ e) (h2 : e ≤ c ∧ 16 < c) (w : World) : (Instr.slice 28 (.slice (some ⟨g, o, none⟩) n c) (some (.int .i64 16)) (some (.int .i64 (e : Int))) none).run Tryz.prog w = .ok (.slice (some ⟨g, o + 16, none⟩) (e - 16) (c - 16)) w := by
  obtain ⟨i, hi, hz, hsz, hby⟩ := info_parts tBytes.info
  have he : Tryz.prog.elem 28 = 5 := by simp [Program.elem, tBytes.und]
  have hu : Tryz.prog.underlying 28 = some (.slice (Tryz.prog.elem 28)) := by rw [he]; exact tBytes.und
  rw [run_slice_lh w 28 (some ⟨g, o, none⟩) n c hu .i64 .i64 16 (e : Int) (by omega) (by omega) (by omega)]
  have h3 : ¬ c = 16 := by omega
  simp [sizeOf, typeInfo, he, hi, Result.andThen, sliced, hsz, add_flat, h3]
theorem refTag_any (A : Option Addr) (c : Nat) (key : List UInt8) (w : World) (hk : Bs w A 32 c key) :
    Calls Tryz.prog 106 #[.slice A 32 c, .string { data := #[116, 97, 103] }] w (RetBs w (deriveL key tagS)) := refDeriveO_any A 32 c key tagS w hk (by decide) (by decide)
theorem refSealK_any (A : Option Addr) (c : Nat) (key : List UInt8) (w : World) (hk : Bs w A 32 c key) :
    Calls Tryz.prog 106 #[.slice A 32 c, .string { data := #[115, 101, 97, 108] }] w (RetBs w (deriveL key sealS)) := refDeriveO_any A 32 c key sealS w hk (by decide) (by decide)
set_option maxRecDepth 100000 in
set_option maxHeartbeats 2000000 in
theorem refSeal_any (A B C : Option Addr) (c d m n : Nat) (key nonce text : List UInt8) (w : World) (hk : Bs w A 32 c key) (hn : Bs w B 16 d nonce) (ht : Bs w C n m text) (hs : n ≤ 30000) :
    Calls Tryz.prog 100 #[.slice A 32 c, .slice B 16 d, .slice C n m] w (RetBox w (boxL key nonce text)) := by
  have t1 : decide ((60000 : Int) < n) = false := decide_eq_false (by omega)
  have htl : text.length = n := ht.len
  have hnl : nonce.length = 16 := hn.len
  have HK := Lib.hid hk; have HN := Lib.hid hn; have HT := Lib.hid ht; have HTL := Lib.hid htl; have HNL := Lib.hid hnl
  have HD1 := Lib.hid (refSealK_any A c key w hk)
  have HDT := Lib.hid (fun W hW => refTag_any A c key W hW)
  have k1 := hk.cap; have k2 := hk.max; have k3 := hn.cap; have k4 := hn.max; have k5 := ht.cap; have k6 := ht.max
  clear hk hn ht htl hnl
  go_enter Tryz.func100, Tryz.ntmps100
  go_wp2_with fail
  refine HD1.out.mono ?_
  rintro e w1 ⟨v1, rfl, o1⟩
  rw [deriveL_len] at o1
  obtain ⟨A1, c1, rfl, s1⟩ := o1.slice
  have G1 := Lib.hid o1.below
  have HOV := Lib.hid (refOver_any A1 B C c1 d m n (deriveL key sealS) nonce text w1 s1 (HN.out.mono o1.below) (HT.out.mono o1.below) (by omega))
  have q1 := s1.cap; have q2 := s1.max
  clear o1 s1
  go_wp2_with fail
  refine HOV.out.mono ?_
  rintro e w2 ⟨v2, rfl, o2⟩
  rw [HTL.out] at o2
  obtain ⟨A2, c2, rfl, s2⟩ := o2.slice
  have G2 := Lib.hid (Gr.trans G1.out o2.below)
  have HJ := Lib.hid (join_any B A2 16 n d c2 nonce (overL (deriveL key sealS) nonce text) w2 (HN.out.mono G2.out) s2 (by omega))
  have q3 := s2.cap; have q4 := s2.max
  clear o2 s2
  go_wp2_with fail
  refine HJ.out.mono ?_
  rintro e w3 ⟨v3, rfl, o3⟩
  have e3 : nonce ++ overL (deriveL key sealS) nonce text = hiddenL key nonce text := rfl
  rw [e3, hiddenL_len, HNL.out, HTL.out] at o3
  obtain ⟨A3, c3, rfl, s3⟩ := o3.slice
  have G3 := Lib.hid (Gr.trans G2.out o3.below)
  have S3 := Lib.hid s3
  have HD3 := Lib.hid (HDT.out w3 (HK.out.mono G3.out))
  have q5 := s3.cap; have q6 := s3.max
  clear o3 s3 e3
  go_wp2_with fail
  refine HD3.out.mono ?_
  rintro e w4 ⟨v4, rfl, o4⟩
  rw [deriveL_len] at o4
  obtain ⟨A4, c4, rfl, s4⟩ := o4.slice
  have G34 := Lib.hid o4.below
  have HM := Lib.hid (refMac_any A4 A3 32 c4 (16 + n) c3 (deriveL key tagS) (hiddenL key nonce text) w4 s4 (by decide) (S3.out.mono o4.below) (by omega))
  have q7 := s4.cap; have q8 := s4.max
  clear o4 s4
  go_wp2_with fail
  refine HM.out.mono ?_
  rintro e w5 ⟨v5, rfl, o5⟩
  rw [macL_len] at o5
  obtain ⟨A5, c5, rfl, s5⟩ := o5.slice
  have G5 := Lib.hid (Gr.trans (Gr.trans G3.out G34.out) o5.below)
  have HJ2 := Lib.hid (join_any A3 A5 (16 + n) 32 c3 c5 (hiddenL key nonce text) (macL (deriveL key tagS) (hiddenL key nonce text)) w5 (S3.out.mono (Gr.trans G34.out o5.below)) s5 (by omega))
  have q9 := s5.cap; have q10 := s5.max
  clear o5 s5
  go_wp2_with fail
  refine HJ2.out.mono ?_
  rintro e w6 ⟨v6, rfl, o6⟩
  have O6 := Lib.hid (o6.base G5.out)
  clear o6
  go_wp2_with fail
  go_ret2
  exact ⟨v6, rfl, O6.out⟩
theorem refOpen_not (A B : Option Addr) (n c m d : Nat) (w : World) (h : n ≠ 32 ∨ m < 48) (h1 : n ≤ c) (h2 : c ≤ 9223372036854775807) (h3 : m ≤ d) (h4 : d ≤ 9223372036854775807) :
    Calls Tryz.prog 103 #[.slice A n c, .slice B m d] w fun e w' => e = .returned (.tuple #[.slice none 0 0, .int .i64 4]) ∧ w = w' := by
  by_cases h32 : n = 32
  · subst h32
    have hm : m < 48 := by omega
    have t1 : decide ((m : Int) < 48) = true := decide_eq_true (by omega)
    clear h
    go_enter Tryz.func103, Tryz.ntmps103
    go_wp2_with fail
    go_ret2
    exact ⟨rfl, rfl⟩
  · have t1 : ((n : Int) != 32) = true := by rw [bne_iff_ne]; omega
    clear h
    go_enter Tryz.func103, Tryz.ntmps103
    go_wp2_with fail
    go_ret2
    exact ⟨rfl, rfl⟩
set_option maxRecDepth 100000 in
set_option maxHeartbeats 2000000 in
theorem refOpen_some (A B : Option Addr) (c d m : Nat) (key b : List UInt8) (w : World) (hk : Bs w A 32 c key) (hb : Bs w B m d b) (h48 : 48 ≤ m) (hm : m ≤ 30000) :
    Calls Tryz.prog 103 #[.slice A 32 c, .slice B m d] w (RetOpenB w key b) := by
  have t1 : decide ((m : Int) < 48) = false := decide_eq_false (by omega)
  have t2 : decide ((60048 : Int) < m) = false := decide_eq_false (by omega)
  have HBL : Hid (b.length = m) := hb.len
  have HK := Lib.hid hk
  have k1 := hk.cap; have k2 := hk.max; have k3 := hb.cap; have k4 := hb.max
  obtain ⟨bb, oo, rfl, hcc⟩ := hb.addr (by omega)
  clear hcc
  obtain ⟨r, hr⟩ : ∃ r : Nat, r = m - 32 := ⟨_, rfl⟩
  have er : (m : Int) - 32 = (r : Int) := by omega
  have H1 : Hid (Bs w (some ⟨bb, oo, none⟩) r d (b.take r)) := by
    have h2 := hb.upto (k := r) (by omega)
    rwa [← List.map_take] at h2
  have H2 : Hid (Bs w (some ⟨bb, oo + r, none⟩) 32 (d - r) (b.drop r)) := by
    have h1 := hb.from (A' := some ⟨bb, oo + r, none⟩) (k := r) (by omega) (fun _ b' o' e => by injection e with e; injection e with e1 e2; subst e1 e2; rfl)
    rw [show m - r = 32 by omega] at h1
    rwa [← List.map_drop] at h1
  have H3 : Hid (Bs w (some ⟨bb, oo, none⟩) 16 d (b.take 16)) := by
    have h2 := hb.upto (k := 16) (by omega)
    rwa [← List.map_take] at h2
  have H4 : Hid (Bs w (some ⟨bb, oo + 16, none⟩) (r - 16) (d - 16) ((b.take r).drop 16)) := by
    have h1 := H1.out.from (A' := some ⟨bb, oo + 16, none⟩) (k := 16) (by omega) (fun _ b' o' e => by injection e with e; injection e with e1 e2; subst e1 e2; rfl)
    rwa [← List.map_drop] at h1
  have HDT := Lib.hid (fun W hW => refTag_any A c key W hW)
  have HDS := Lib.hid (fun W hW => refSealK_any A c key W hW)
  have hx1 : ∀ W, (Instr.slice 28 (.slice (some ⟨bb, oo, none⟩) m d) none (some (.int .i64 (r : Int))) none).run Tryz.prog W = .ok (.slice (some ⟨bb, oo, none⟩) r d) W := fun W => run_upto tBytes (some ⟨bb, oo, none⟩) m d r (by omega) W
  have hx2 := run_loB bb oo m d r (by omega) (by omega)
  rw [show m - r = 32 by omega] at hx2
  have hx3 : ∀ W, (Instr.slice 28 (.slice (some ⟨bb, oo, none⟩) m d) none (some (.int .i64 16)) none).run Tryz.prog W = .ok (.slice (some ⟨bb, oo, none⟩) 16 d) W := fun W => run_upto tBytes (some ⟨bb, oo, none⟩) m d 16 (by omega) W
  have hx4 := run_lhB bb oo m d r (by omega) (by omega)
  have HRM : Hid (r = m - 32) := hr
  have HBN : Hid (b.length - 32 = r) := by show _ = _; rw [HBL.out, hr]
  clear hk hb hr
  go_enter Tryz.func103, Tryz.ntmps103
  go_upto_region 4 with fail
  refine wp_region_grow (by kernel_rfl) [0, 1, 0, 0, 12, 31, 0, 0, 192, 511, 1023] [.p 0, .p 2, .p 3, .p 4, .p 6, .p 7, .p 8, .c 1, .c 5, .c 9, .p 10] (by kernel_rfl) (trivial) ?_
  refine wpG_pe rfl rfl ?_
  apply Exists.intro
  refine ⟨fun wq => ?_, ?_⟩
  · unfold plainAt
    go_simp
    first | exact rfl | exact ⟨rfl, rfl⟩
  go_simp
  refine wpG_pe rfl rfl ?_
  apply Exists.intro
  refine ⟨fun wq => ?_, ?_⟩
  · unfold plainAt
    go_simp
    first | exact rfl | exact ⟨rfl, rfl⟩
  go_simp
  refine wpG_pe rfl rfl ?_
  apply Exists.intro
  refine ⟨fun wq => ?_, ?_⟩
  · unfold plainAt
    go_simp
    first | exact rfl | exact ⟨rfl, rfl⟩
  go_simp
  refine wpG_pe rfl rfl ?_
  apply Exists.intro
  refine ⟨fun wq => ?_, ?_⟩
  · unfold plainAt
    go_simp
    first | exact rfl | exact ⟨rfl, rfl⟩
  go_simp
  refine wpG_pe rfl rfl ?_
  apply Exists.intro
  refine ⟨fun wq => ?_, ?_⟩
  · unfold plainAt
    go_simp
    first | exact rfl | exact ⟨rfl, rfl⟩
  go_simp
  refine wpG_pe rfl rfl ?_
  apply Exists.intro
  refine ⟨fun wq => ?_, ?_⟩
  · unfold plainAt
    go_simp
    first | exact rfl | exact ⟨rfl, rfl⟩
  go_simp
  refine wpG_pe rfl rfl ?_
  apply Exists.intro
  refine ⟨fun wq => ?_, ?_⟩
  · unfold plainAt
    go_simp
    first | exact rfl | exact ⟨rfl, rfl⟩
  go_simp
  refine wpG_c rfl rfl ?_
  intro w5 g5 K hK
  go_simp
  go_at_call 106
  refine (HDT.out w5 (HK.out.mono ((Gr.drew _).trans g5))).mono ?_
  rintro e wn ⟨v6, rfl, o6⟩
  rw [deriveL_len] at o6; obtain ⟨A6, c6, rfl, s6⟩ := o6.slice; have S6 := Lib.hid s6; have G6 := Lib.hid (((Gr.drew _).trans g5).trans o6.below); have q61 := s6.cap; have q62 := s6.max; refine hK _ _ o6.below ?_; clear hK g5 o6 s6
  go_simp
  refine wpG_c rfl rfl ?_
  intro w7 g7 K hK
  go_simp
  go_at_call 135
  refine (refMac_any A6 (some ⟨bb, oo, none⟩) 32 c6 r d (deriveL key tagS) (b.take r) w7 (S6.out.mono g7) (by decide) (H1.out.mono (G6.out.trans g7)) (by omega)).mono ?_
  rintro e wn ⟨v8, rfl, o8⟩
  rw [macL_len] at o8; obtain ⟨A8, c8, rfl, s8⟩ := o8.slice; have S8 := Lib.hid s8; have G8 := Lib.hid ((G6.out.trans g7).trans o8.below); have q81 := s8.cap; have q82 := s8.max; refine hK _ _ o8.below ?_; clear hK g7 o8 s8
  go_simp
  refine wpG_c rfl rfl ?_
  intro w9 g9 K hK
  go_simp
  go_at_call 15
  refine (refSame_any A8 (some ⟨bb, oo + r, none⟩) 32 32 c8 (d - r) (macL (deriveL key tagS) (b.take r)) (b.drop r) w9 (S8.out.mono g9) (H2.out.mono (G8.out.trans g9))).mono ?_
  rintro e wn ⟨rfl, k10, rfl⟩
  refine hK _ _ (belowN (Gr.refl _) k10) ?_; have G10 := Lib.hid (belowN (G8.out.trans g9) k10); clear hK g9
  go_simp
  refine wpG_pe rfl rfl ?_
  apply Exists.intro
  refine ⟨fun wq => ?_, ?_⟩
  · unfold plainAt
    go_simp
    first | exact rfl | exact ⟨rfl, rfl⟩
  go_simp
  refine wpG_nil ?_
  intro w11 g11
  have G11 := Lib.hid (Gr.trans G10.out g11)
  clear g11 hx1 hx2
  cases hq : (macL (deriveL key tagS) (b.take r) == b.drop r)
  · have HSE : Hid (sealedL key b = false) := by show _ = _; unfold sealedL; rw [HBN.out]; exact hq
    clear hq
    go_wp2_with fail
    go_ret2
    refine ⟨G11.out, ?_⟩
    rw [HSE.out]
    rfl
  · have HSE : Hid (sealedL key b = true) := by show _ = _; unfold sealedL; rw [HBN.out]; exact hq
    clear hq
    go_upto_region 6 with fail
    refine wp_region_grow (by kernel_rfl) [0, 1, 0, 4, 0, 0, 48, 127, 255, 255, 1023, 2047] [.p 0, .p 2, .p 3, .p 4, .p 5, .p 6, .c 1, .c 7, .p 8, .p 9, .p 10, .p 11] (by kernel_rfl) (trivial) ?_
    refine wpG_pe rfl rfl ?_
    apply Exists.intro
    refine ⟨fun wq => ?_, ?_⟩
    · unfold plainAt
      go_simp
      first | exact rfl | exact ⟨rfl, rfl⟩
    go_simp
    refine wpG_pe rfl rfl ?_
    apply Exists.intro
    refine ⟨fun wq => ?_, ?_⟩
    · unfold plainAt
      go_simp
      first | exact rfl | exact ⟨rfl, rfl⟩
    go_simp
    refine wpG_pe rfl rfl ?_
    apply Exists.intro
    refine ⟨fun wq => ?_, ?_⟩
    · unfold plainAt
      go_simp
      first | exact rfl | exact ⟨rfl, rfl⟩
    go_simp
    refine wpG_pe rfl rfl ?_
    apply Exists.intro
    refine ⟨fun wq => ?_, ?_⟩
    · unfold plainAt
      go_simp
      first | exact rfl | exact ⟨rfl, rfl⟩
    go_simp
    refine wpG_pe rfl rfl ?_
    apply Exists.intro
    refine ⟨fun wq => ?_, ?_⟩
    · unfold plainAt
      go_simp
      first | exact rfl | exact ⟨rfl, rfl⟩
    go_simp
    refine wpG_pe rfl rfl ?_
    apply Exists.intro
    refine ⟨fun wq => ?_, ?_⟩
    · unfold plainAt
      go_simp
      first | exact rfl | exact ⟨rfl, rfl⟩
    go_simp
    refine wpG_c rfl rfl ?_
    intro w12 g12 K hK
    go_simp
    go_at_call 106
    refine (HDS.out w12 (HK.out.mono (Gr.trans G11.out ((Gr.drew _).trans g12)))).mono ?_
    rintro e wn ⟨v13, rfl, o13⟩
    rw [deriveL_len] at o13; obtain ⟨A13, c13, rfl, s13⟩ := o13.slice; have S13 := Lib.hid s13; have G13 := Lib.hid (Gr.trans (Gr.trans G11.out ((Gr.drew _).trans g12)) o13.below); have q131 := s13.cap; have q132 := s13.max; refine hK _ _ o13.below ?_; clear hK g12 o13 s13
    go_simp
    refine wpG_c rfl rfl ?_
    intro w14 g14 K hK
    go_simp
    go_at_call 134
    refine (refOver_any A13 (some ⟨bb, oo, none⟩) (some ⟨bb, oo + 16, none⟩) c13 d (d - 16) (r - 16) (deriveL key sealS) (b.take 16) ((b.take r).drop 16) w14 (S13.out.mono g14) (H3.out.mono (Gr.trans G13.out g14)) (H4.out.mono (Gr.trans G13.out g14)) (by omega)).mono ?_
    rintro e wn ⟨v15, rfl, o15⟩
    have O15 := Lib.hid (o15.base (Gr.trans G13.out g14)); refine hK _ _ o15.below ?_; clear hK g14 o15
    go_simp
    refine wpG_pe rfl rfl ?_
    apply Exists.intro
    refine ⟨fun wq => ?_, ?_⟩
    · unfold plainAt
      go_simp
      first | exact rfl | exact ⟨rfl, rfl⟩
    go_simp
    refine wpG_pe rfl rfl ?_
    apply Exists.intro
    refine ⟨fun wq => ?_, ?_⟩
    · unfold plainAt
      go_simp
      first | exact rfl | exact ⟨rfl, rfl⟩
    go_simp
    refine wpG_pe rfl rfl ?_
    apply Exists.intro
    refine ⟨fun wq => ?_, ?_⟩
    · unfold plainAt
      go_simp
      first | exact rfl | exact ⟨rfl, rfl⟩
    go_simp
    refine wpG_pe rfl rfl ?_
    apply Exists.intro
    refine ⟨fun wq => ?_, ?_⟩
    · unfold plainAt
      go_simp
      first | exact rfl | exact ⟨rfl, rfl⟩
    go_simp
    refine wpG_nil ?_
    intro w16 g16
    have O16 := Lib.hid (O15.out.mono g16)
    clear g16
    go_wp2_with fail
    go_ret2
    refine ⟨O16.out.below, ?_⟩
    rw [if_pos HSE.out]
    have h := O16.out
    have e1 : ((b.take r).drop 16).length = b.length - 48 := by rw [List.length_drop, List.length_take, HBL.out, HRM.out]; omega
    rw [e1, show overL (deriveL key sealS) (b.take 16) ((b.take r).drop 16) = openL key b by unfold openL; rw [HBN.out]] at h
    exact ⟨v15, rfl, h⟩
end Go.Proofs.YtcfbbgbjlgonpaaGreatDoor

namespace Go.Proofs.YtcfbbgbjlgonpaaGreatDoor
open Go.RowKit
def Pow10 (w : World) : Prop := Lib.TabIs Tryz.prog w "internal/strconv.uint64pow10" .u64 Lib.pow10Tab
theorem Pow10.mono {w w' : World} (h : Pow10 w) (hb : Below w.heap.size w w') : Pow10 w' := by
  unfold Pow10 Lib.TabIs World.var? at *
  rw [show Tryz.prog.globalNamed "internal/strconv.uint64pow10" = some 2 by kernel_rfl] at h ⊢
  simp only [Option.bind_some] at h ⊢
  have hlt : 2 < w.heap.size := by
    rcases Nat.lt_or_ge 2 w.heap.size with h' | h'
    · exact h'
    · simp [Array.getElem?_eq_none h'] at h
  rw [hb.block _ hlt]
  exact h
theorem Pow10.lt {w : World} (h : Pow10 w) : 2 < w.heap.size := by
  unfold Pow10 Lib.TabIs World.var? at h
  rw [show Tryz.prog.globalNamed "internal/strconv.uint64pow10" = some 2 by kernel_rfl] at h
  simp only [Option.bind_some] at h
  rcases Nat.lt_or_ge 2 w.heap.size with h' | h'
  · exact h'
  · simp [Array.getElem?_eq_none h'] at h
theorem Pow10.of_block {w w' : World} (h : Pow10 w) (e : w'.heap[2]? = w.heap[2]?) : Pow10 w' := by
  unfold Pow10 Lib.TabIs World.var? at *
  rw [show Tryz.prog.globalNamed "internal/strconv.uint64pow10" = some 2 by kernel_rfl] at h ⊢
  simp only [Option.bind_some] at h ⊢
  rw [e]; exact h
end Go.Proofs.YtcfbbgbjlgonpaaGreatDoor

namespace Go.Proofs.YtcfbbgbjlgonpaaGreatDoor
open Go.RowKit
set_option linter.unusedVariables false

theorem below_grow (w : World) (os : Array Obj) : Below w.heap.size w (Go.Sort.grow w os) := ⟨rfl, rfl, rfl, by simp, fun k hk => Go.Sort.heap_grow_old w os hk⟩

theorem print_any (n : Int) (w : World) (h0 : -9223372036854775808 ≤ n) (h1 : n ≤ 9223372036854775807) (ht : Pow10 w) :
    Calls Tryz.prog 118 #[.int .i64 n] w fun e w' => e = .returned (.string ⟨(printL n).toArray⟩) ∧ Below w.heap.size w w' := by
  by_cases h : n < 0
  · have t1 : decide (n < 0) = true := decide_eq_true h
    have HP : Hid (printL n = []) := if_pos h
    go_enter Tryz.func118, Tryz.ntmps118
    go_wp2
    go_ret
    exact ⟨by rw [HP.out]; rfl, Below.refl _ _⟩
  · have t1 : decide (n < 0) = false := decide_eq_false h
    have HP : Hid (Lib.itoa n = printL n) := by unfold Lib.itoa printL; rw [if_neg h, if_neg h]; exact rfl
    have HT := Lib.hid ht; clear ht
    go_enter Tryz.func118, Tryz.ntmps118
    go_wp2_with (go_at_call 149; refine (Tryz.strconv_Itoa n h0 h1 _ HT.out).mono ?_; rintro e w' ⟨rfl, k, os, rfl⟩)
    go_ret
    exact ⟨by rw [HP.out]; rfl, (belowN (Below.refl _ _) k).trans (below_grow (w.drewN k) os)⟩

theorem dec_len (u : Nat) : (Lib.decDigits u).length ≤ u + 1 := by
  induction u using Nat.strongRecOn with
  | _ u ih =>
    by_cases h : u < 10
    · rw [dec_small u h]; simp
    · rw [dec_big u h, dec_small (u % 10) (by omega), List.length_append, List.length_singleton]
      have := ih (u / 10) (by omega)
      omega
theorem print_len (n : Int) (h : 0 ≤ n) : ((printL n).length : Int) ≤ n + 1 := by
  unfold printL
  rw [if_neg (by omega)]
  have := dec_len n.toNat
  omega
theorem conv_back1 {P : Program} (x : UInt8) (k : Int) (hk : (x.toNat : Int) = k) (t : TypeId) (hs : P.underlying 9 = some .string) (hd : P.underlying t = some (.slice 5)) (he : P.underlying 5 = some (.int .u8)) (w : World) :
    (convert t 9 (.slice (some ⟨w.heap.size, 0, none⟩) 1 1)).run P (w.alloc (.cells #[.int .u8 k] 5)) = .ok (.string ⟨#[x]⟩) (w.alloc (.cells #[.int .u8 k] 5)) := by
  refine run_convert_bytes_back (P := P) (w.alloc (.cells #[.int .u8 k] 5)) t 9 5 ⟨w.heap.size, 0, none⟩ 1 [x] hd he hs ?_
  intro j hj
  obtain rfl : j = 0 := by simp at hj; exact hj
  have := (Blk.new w 5 #[.int .u8 k]).cell 0
  subst hk
  exact this

theorem refPrint_any : ∀ (u : Nat) (n : Int) (w : World) (hu : n ≤ u) (h1 : n ≤ 9223372036854775807), 
    Calls Tryz.prog 133 #[.int .i64 n] w fun e w' => e = .returned (.string ⟨(printL n).toArray⟩) ∧ Below w.heap.size w w' := by
  intro u
  induction u using Nat.strongRecOn with
  | _ u ih =>
    intro n w hu h1
    by_cases h : n < 0
    · have t1 : decide (n < 0) = true := decide_eq_true h
      have HP : Hid (printL n = []) := if_pos h
      clear ih
      go_enter Tryz.func133, Tryz.ntmps133
      go_wp2
      go_ret
      exact ⟨by rw [HP.out]; rfl, Below.refl _ _⟩
    have t1 : decide (n < 0) = false := decide_eq_false h
    by_cases h2 : n < 10
    · have t2 : decide (n < 10) = true := decide_eq_true h2
      clear ih
      have hd : n = 0 ∨ n = 1 ∨ n = 2 ∨ n = 3 ∨ n = 4 ∨ n = 5 ∨ n = 6 ∨ n = 7 ∨ n = 8 ∨ n = 9 := by omega
      have HP : Hid (printL n = [UInt8.ofNat (48 + n.toNat)]) := by unfold printL; rw [if_neg h, dec_small _ (by omega)]; exact rfl
      have hcv := fun (x : UInt8) (k : Int) hk => conv_back1 (P := Tryz.prog) x k hk 28 Tryz.underlying9 Tryz.underlying28 Tryz.underlying5 w
      go_enter Tryz.func133, Tryz.ntmps133
      clear h h2 t1 t2 hu h1
      rcases hd with rfl | rfl | rfl | rfl | rfl | rfl | rfl | rfl | rfl | rfl
      · replace hcv := hcv 48 48 rfl
        go_wp2
        go_ret
        exact ⟨by rw [HP.out]; rfl, (Below.refl _ _).alloc (Nat.le_refl _) _⟩
      · replace hcv := hcv 49 49 rfl
        go_wp2
        go_ret
        exact ⟨by rw [HP.out]; rfl, (Below.refl _ _).alloc (Nat.le_refl _) _⟩
      · replace hcv := hcv 50 50 rfl
        go_wp2
        go_ret
        exact ⟨by rw [HP.out]; rfl, (Below.refl _ _).alloc (Nat.le_refl _) _⟩
      · replace hcv := hcv 51 51 rfl
        go_wp2
        go_ret
        exact ⟨by rw [HP.out]; rfl, (Below.refl _ _).alloc (Nat.le_refl _) _⟩
      · replace hcv := hcv 52 52 rfl
        go_wp2
        go_ret
        exact ⟨by rw [HP.out]; rfl, (Below.refl _ _).alloc (Nat.le_refl _) _⟩
      · replace hcv := hcv 53 53 rfl
        go_wp2
        go_ret
        exact ⟨by rw [HP.out]; rfl, (Below.refl _ _).alloc (Nat.le_refl _) _⟩
      · replace hcv := hcv 54 54 rfl
        go_wp2
        go_ret
        exact ⟨by rw [HP.out]; rfl, (Below.refl _ _).alloc (Nat.le_refl _) _⟩
      · replace hcv := hcv 55 55 rfl
        go_wp2
        go_ret
        exact ⟨by rw [HP.out]; rfl, (Below.refl _ _).alloc (Nat.le_refl _) _⟩
      · replace hcv := hcv 56 56 rfl
        go_wp2
        go_ret
        exact ⟨by rw [HP.out]; rfl, (Below.refl _ _).alloc (Nat.le_refl _) _⟩
      · replace hcv := hcv 57 57 rfl
        go_wp2
        go_ret
        exact ⟨by rw [HP.out]; rfl, (Below.refl _ _).alloc (Nat.le_refl _) _⟩
    have t2 : decide (n < 10) = false := decide_eq_false h2
    have HI := Lib.hid ih; clear ih
    have HP : Hid (printL n = printL (n / 10) ++ printL (n % 10)) := by
      unfold printL
      rw [if_neg h, if_neg (by omega), if_neg (by omega), dec_big _ (by omega)]
      rw [show (n / 10).toNat = n.toNat / 10 by omega, show (n % 10).toNat = n.toNat % 10 by omega]
      exact rfl
    go_enter Tryz.func133, Tryz.ntmps133
    go_wp2_with fail
    refine (HI.out (u / 10) (by omega) (n / 10) _ (by omega) (by omega)).mono ?_
    rintro e w1 ⟨rfl, b1⟩
    go_wp2_with fail
    refine (HI.out (u - 1) (by omega) (n % 10) _ (by omega) (by omega)).mono ?_
    rintro e w2 ⟨rfl, b2⟩
    have l1 := print_len (n / 10) (by omega)
    have l2 := print_len (n % 10) (by omega)
    have hlen : ¬ 9223372036854775807 < (printL (n / 10)).length + (printL (n % 10)).length := by omega
    clear l1 l2
    go_wp2
    go_ret
    exact ⟨by rw [HP.out, ← ByteArray.mk_append_mk]; rfl, b1.trans (b2.mono b1.size)⟩

end Go.Proofs.YtcfbbgbjlgonpaaGreatDoor
