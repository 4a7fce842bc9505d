/- Own texts of this claim, one behind the other. No condition. -/
import Derived.Test.YtcfbbgbjlgonpaaGreatDoorObPkAF
import Derived.Test.YtcfbbgbjlgonpaaGreatDoorObPkBP
import Derived.Test.YtcfbbgbjlgonpaaGreatDoorRows
import Derived.ProofKit
import Derived.Lib.LaidTab
import Derived.Lib.ItoaNum
import Derived.Below
import Derived.LaidMore
import Derived.Stop.Joined
import Derived.Stop.LaidErr

/- SuiteBack: the walk. No condition. -/
namespace Go.Proofs.YtcfbbgbjlgonpaaGreatDoor
open Go.RowKit
set_option linter.unusedVariables false
set_option linter.unusedSimpArgs false
theorem realOpen_box (g : Nat) (A B : Option Addr) (c d m : Nat) (key nonce text : List UInt8) (w : World) (h : RealS w g) (hn : nonce.length = 16) (hk : Bs w A 32 c key) (hb : Bs w B m d (boxL key nonce text)) (hm : m ≤ 30000) (hK : ShaK w) :
    Calls Tryz.prog 19 #[.pointer (some ⟨g, 0, none⟩), .slice A 32 c, .slice B m d] w fun e w' => Gr w w' ∧ ∃ v, e = .returned (.tuple #[v, .bool true]) ∧ Own w w' 5 1 v text.length (text.map u8c) := by
  have hl : (boxL key nonce text).length = m := hb.len
  rw [boxL_len hn] at hl
  refine (realOpen_any g A B c d m key (boxL key nonce text) w h hk hb (by omega) hm hK).mono ?_
  rintro e w' ⟨x, y⟩
  rw [if_pos (boxL_sealed hn), boxL_open hn, boxL_len hn, show text.length + 48 - 48 = text.length by omega] at y
  exact ⟨x, y⟩
set_option maxRecDepth 100000 in
set_option maxHeartbeats 8000000 in
theorem suiteBack_walk (A B C : Option Addr) (n c m d q e0 : Nat) (seed key text : List UInt8) (w : World) (hs : Bs w A n c seed) (hk : Bs w B m d key) (ht : Bs w C q e0 text) (hK : ShaK w) :
    Calls Tryz.prog 5 #[.slice A n c, .slice B m d, .slice C q e0] w fun e w' => e = .returned (.bool true) ∧ Below w.heap.size w w' := by
  show Calls _ _ _ _ fun e w' => e = .returned (.bool true) ∧ Gr w w'
  have k1 := hk.cap; have k2 := hk.max; have k3 := ht.cap; have k4 := ht.max; have k5 := hs.cap; have k6 := hs.max
  have HS := Lib.hid hs; have HK := Lib.hid hk; have HT := Lib.hid ht; have HSK := Lib.hid hK
  have HZ := Lib.hid hK.lt
  have HTL : Hid (text.length = q) := ht.len
  have HSL : Hid (seed.length = n) := hs.len
  clear hs hk ht hK
  by_cases h100 : 100 < n
  · have t1 : decide ((100 : Int) < (n : Int)) = true := decide_eq_true (by omega)
    go_enter Tryz.func5, Tryz.ntmps5
    go_wp2_with fail
    refine (alive17_any _).mono ?_
    rintro e w1 ⟨rfl, g1⟩
    have G1 := Lib.hid g1; clear g1
    go_wp2_with fail
    go_ret
    exact ⟨rfl, G1.out⟩
  have t1 : decide ((100 : Int) < (n : Int)) = false := decide_eq_false (by omega)
  by_cases h32 : m = 32
  case neg =>
    have t2 : ((m : Int) != 32) = true := by rw [bne_iff_ne]; omega
    go_enter Tryz.func5, Tryz.ntmps5
    go_wp2_with fail
    refine (alive17_any _).mono ?_
    rintro e w1 ⟨rfl, g1⟩
    have G1 := Lib.hid g1; clear g1
    go_wp2_with fail
    go_ret
    exact ⟨rfl, G1.out⟩
  subst h32
  by_cases h200 : 200 < q
  · have t2 : decide ((200 : Int) < (q : Int)) = true := decide_eq_true (by omega)
    go_enter Tryz.func5, Tryz.ntmps5
    go_wp2_with fail
    refine (alive17_any _).mono ?_
    rintro e w1 ⟨rfl, g1⟩
    have G1 := Lib.hid g1; clear g1
    go_wp2_with fail
    go_ret
    exact ⟨rfl, G1.out⟩
  have t2 : decide ((200 : Int) < (q : Int)) = false := decide_eq_false (by omega)
  have hn1000 : n ≤ 1000 := by omega
  have hq200 : q ≤ 200 := by omega
  obtain ⟨N, hN⟩ : ∃ N, N = q + 48 := ⟨_, rfl⟩
  have HN := Lib.hid hN
  have wN : IntKind.i64.wrap ((q : Int) + 48) = (N : Int) := by rw [IntWalk.i64_in _ (by omega)]; omega
  clear hN
  go_enter Tryz.func5, Tryz.ntmps5
  go_wp2_with fail
  refine (realNew_any A n c seed w HS.out hn1000 HZ.out).mono ?_
  rintro e w1 ⟨g0, p0, A0, c0, rfl, r1, g1, hg0, hp0⟩
  have R1 := Lib.hid r1; have G1 := Lib.hid g1; have HP0 := Lib.hid hp0
  clear r1 g1 hg0 hp0
  go_wp2_with fail
  refine (symbolic2_any w1).mono ?_
  rintro e w2 ⟨p, g, bm, bs, rfl, s2, hp, hne, hmap, hbs⟩
  have S2 := Lib.hid (s2.base G1.out); have G12 := Lib.hid s2.below; have HM2 := Lib.hid hmap; have HNE := Lib.hid hne
  have HBS : Hid (w.heap.size ≤ bs) := Nat.le_trans G1.out.size hbs
  clear s2 hp hne hmap hbs
  obtain ⟨hL, hhL⟩ : ∃ hL, hL = w2.heap.size := ⟨_, rfl⟩
  obtain ⟨W3, hW3⟩ : ∃ W3, W3 = w2.alloc (.cells #[.pointer (some ⟨g0, 0, none⟩), .pointer (some ⟨p, 0, none⟩)] 25) := ⟨_, rfl⟩
  have hx : Gr w2 W3 := by rw [hW3]; exact Gr.alloc _ _
  have K3 : Hid (BkS w W3 B d C q e0 key text g0 p0 A0 seed.length c0 seed 0 hL p g bm bs) := ⟨HK.out.mono (Gr.trans (Gr.trans G1.out G12.out) hx), HT.out.mono (Gr.trans (Gr.trans G1.out G12.out) hx), R1.out.mono (Gr.trans G12.out hx), S2.out.gr hx, hx.map HM2.out, by rw [hW3, hhL]; exact Blk.new w2 _ _, HSK.out.mono (Gr.trans (Gr.trans G1.out G12.out) hx), HP0.out⟩
  clear hx
  go_upto_region 5 with fail
  rw [← hW3, ← hhL]
  clear hW3 hhL
  have c3 := K3.out.li.cell 0
  have HSE := Lib.hid (K3.out.re.seal (by rw [HSL.out]; omega) (by decide) key text K3.out.key K3.out.txt (by omega) K3.out.sk)
  unfold RetSealR at HSE
  refine wp_loop_rounds 3 ?_
  rw [rounds_succ]
  go_wp2_with fail
  refine HSE.out.mono ?_
  rintro e w4 ⟨v4, rfl, o4⟩
  obtain ⟨A4, c4, rfl, s4⟩ := o4.slice
  have K4 := Lib.hid (K3.out.drew.mono o4.below)
  rw [HTL.out, ← HN.out] at s4
  rw [HTL.out, ← HN.out]
  have q4 := s4.cap; have m4 := s4.max
  have hB4 : Bs w4 A4 N c4 (boxL key (nonceL seed 0) text) := s4
  have HOP := Lib.hid (realOpen_box g0 B A4 d c4 N key (nonceL seed 0) text w4 K4.out.re.real (nonceL_len seed 0) K4.out.key hB4 (by have := HN.out; omega) K4.out.sk)
  rw [HTL.out] at HOP
  clear o4 s4 hB4 c3 HSE
  go_wp2_with fail
  refine HOP.out.mono ?_
  rintro e w5 ⟨g5, v5, rfl, o5⟩
  obtain ⟨A5, c5, rfl, s5⟩ := o5.slice
  have K5 := Lib.hid (K4.out.mono g5)
  have q5 := s5.cap; have m5 := s5.max
  have HSM := Lib.hid (refSame_any A5 C q q c5 e0 text text w5 s5 K5.out.txt)
  rw [beq_self_eq_true] at HSM
  clear g5 o5 s5 HOP
  go_wp2_with fail
  refine HSM.out.mono ?_
  rintro e w6 ⟨rfl, k6', rfl⟩
  have K6 := Lib.hid (K5.out.mono (belowN (Below.refl w5.heap.size w5) k6'))
  have HSU := Lib.hid (realSum_any g0 C q e0 text _ K6.out.re.real K6.out.txt)
  clear HSM
  go_wp2_with fail
  refine HSU.out.mono ?_
  rintro e w7 ⟨v7, rfl, o7⟩
  obtain ⟨A7, c7, rfl, s7⟩ := o7.slice
  have K7 := Lib.hid (K6.out.mono o7.below)
  have HCK := Lib.hid (realCheck_any g0 C A7 q e0 _ c7 text (crcL text) w7 K7.out.re.real K7.out.txt s7)
  rw [beq_self_eq_true] at HCK
  clear o7 s7 HSU
  go_wp2_with fail
  refine HCK.out.mono ?_
  rintro e w8 ⟨rfl, g8⟩
  have K8 := Lib.hid (K7.out.mono g8)
  clear g8 HCK
  go_wp2_with fail
  have c8 := K8.out.li.cell 1
  have htl : text.length ≤ 200 := by rw [HTL.out]; omega
  have HSE2 := Lib.hid (K8.out.sy.seal (by decide) B C 32 d q e0 key text K8.out.key K8.out.txt rfl (by omega) (fun w' _ hb => HT.out.mono hb))
  have HM8 := Lib.hid K8.out.mp
  clear K3 K4 K5 K6 K7
  rw [rounds_succ]
  go_wp2_with fail
  refine HSE2.out.mono ?_
  rintro e w9 ⟨⟨v9, rfl, o9⟩, s9, f9, km9⟩
  obtain ⟨A9, c9, rfl, sl9⟩ := o9.slice
  have S9 := Lib.hid s9; have KM9 := Lib.hid km9
  have HM9 : Hid (w9.heap[bs]? = some (.map #[] 0)) := km9 HNE.out _ _ HM8.out
  obtain ⟨id, pa, pb, hsd⟩ := seald_of (T := []) (by decide) key text
  have hln := seal_len [] key text
  simp only [List.length_nil] at hln
  have hsd1 := hsd _ (Onto.refl _) (by omega)
  rw [HTL.out, ← HN.out] at sl9
  rw [HTL.out, ← HN.out]
  have q9 := sl9.cap; have m9 := sl9.max
  have HOP2 := Lib.hid (s9.openS (by omega) (tin_sz s9.i) hsd1 htl B A9 32 d _ c9 key (HK.out.mono s9.below) sl9)
  rw [beq_self_eq_true] at HOP2
  clear s9 km9 o9 f9 sl9 hsd hsd1 c8 HSE2
  generalize (sealT [] key text).1 = T1 at *
  go_wp2_with fail
  refine HOP2.out.mono ?_
  rintro e w10 ⟨C10, q10, r10, rfl, hx1, _, g10⟩
  have S10 := Lib.hid (S9.out.gr g10)
  have HM10 := Lib.hid (Gr.map g10 HM9.out)
  have hb10 : Bs w10 C10 q10 r10 text := hx1 trivial
  have q10l := hb10.cap; have m10 := hb10.max
  have HSM2 := Lib.hid (refSame_any C10 C q10 q r10 e0 text text w10 hb10 (HT.out.mono S10.out.below))
  rw [beq_self_eq_true] at HSM2
  clear hx1 g10 hb10 HOP2
  go_wp2_with fail
  refine HSM2.out.mono ?_
  rintro e w11 ⟨rfl, k11, rfl⟩
  have S11 := Lib.hid (S10.out.gr (belowN (Below.refl w10.heap.size w10) k11))
  have HM11 : Hid ((w10.drewN k11).heap[bs]? = some (.map #[] 0)) := HM10.out
  obtain ⟨w12, hw12⟩ : ∃ w12, w12 = w10.drewN k11 := ⟨_, rfl⟩
  rw [← hw12] at S11 HM11 ⊢
  clear hw12 HSM2
  have HSU2 := Lib.hid (sum_first S11.out.blk HM11.out C q e0 text (HT.out.mono S11.out.below))
  go_wp2_with fail
  refine HSU2.out.mono ?_
  rintro e w13 ⟨A13, c13, rfl, sl13, hb13, hm13, t13⟩
  have G13 : Hid (Gr w w13) := t13.below S11.out.below S11.out.below.size (fun b e => e ▸ HBS.out)
  have HCK2 := Lib.hid (check_one hb13 hm13 C A13 q e0 c13 text (HT.out.mono G13.out) sl13)
  rw [beq_self_eq_true] at HCK2
  clear sl13 hb13 hm13 t13 HSU2
  go_wp2_with fail
  refine HCK2.out.mono ?_
  rintro e w14 ⟨rfl, g14⟩
  have G14 := Lib.hid (Gr.trans G13.out g14)
  clear g14 HCK2
  go_wp2_with fail
  rw [rounds_succ]
  go_wp2_with fail
  refine (nilOpen_any B C 32 d q e0 w14).mono ?_
  rintro e w15 ⟨rfl, h15⟩
  rw [← h15]
  clear h15 w15
  go_wp2_with fail
  refine (nilTerms_any w14).mono ?_
  rintro e w15 ⟨rfl, h15⟩
  rw [← h15]
  clear h15 w15
  go_wp2_with fail
  refine (nilDraw_any w14).mono ?_
  rintro e w15 ⟨rfl, h15⟩
  rw [← h15]
  clear h15 w15
  go_wp2_with fail
  refine (nilSeal_any B C 32 d q e0 w14).mono ?_
  rintro e w15 ⟨rfl, h15⟩
  rw [← h15]
  clear h15 w15
  go_wp2_with fail
  refine (nilDerive_any B 32 d _ w14).mono ?_
  rintro e w15 ⟨rfl, h15⟩
  rw [← h15]
  clear h15 w15
  go_wp2_with fail
  refine (nilMix_any B B 32 d 32 d w14).mono ?_
  rintro e w15 ⟨rfl, h15⟩
  rw [← h15]
  clear h15 w15
  go_wp2_with fail
  refine (nilSum_any C q e0 w14).mono ?_
  rintro e w15 ⟨rfl, h15⟩
  rw [← h15]
  clear h15 w15
  go_wp2_with fail
  refine (nilHandle_any 1 w14).mono ?_
  rintro e w15 ⟨rfl, h15⟩
  rw [← h15]
  clear h15 w15
  go_wp2_with fail
  refine (nilFind_any B 32 d w14).mono ?_
  rintro e w15 ⟨rfl, h15⟩
  rw [← h15]
  clear h15 w15
  go_wp2_with fail
  refine (nilCheck_any C none q e0 0 0 w14).mono ?_
  rintro e w15 ⟨rfl, h15⟩
  rw [← h15]
  clear h15 w15
  go_wp2_with fail
  refine (nilTerm_any B 32 d w14).mono ?_
  rintro e w15 ⟨rfl, h15⟩
  rw [← h15]
  clear h15 w15
  go_wp2_with fail
  refine (alive17_any w14).mono ?_
  rintro e w15 ⟨rfl, g15⟩
  have G15 := Lib.hid (Gr.trans G14.out g15)
  clear g15
  go_wp2_with fail
  go_ret
  exact ⟨rfl, G15.out⟩
end Go.Proofs.YtcfbbgbjlgonpaaGreatDoor

namespace Go.Proofs.YtcfbbgbjlgonpaaGreatDoor
open Go.RowKit
def Pow10 (w : World) : Prop := Lib.TabIs Tryz.prog w "internal/strconv.uint64pow10" .u64 Lib.pow10Tab
theorem Pow10.mono {w w' : World} (h : Pow10 w) (hb : Below w.heap.size w w') : Pow10 w' := by
  unfold Pow10 Lib.TabIs World.var? at *
  rw [show Tryz.prog.globalNamed "internal/strconv.uint64pow10" = some 2 by kernel_rfl] at h ⊢
  simp only [Option.bind_some] at h ⊢
  have hlt : 2 < w.heap.size := by
    rcases Nat.lt_or_ge 2 w.heap.size with h' | h'
    · exact h'
    · simp [Array.getElem?_eq_none h'] at h
  rw [hb.block _ hlt]
  exact h
theorem Pow10.lt {w : World} (h : Pow10 w) : 2 < w.heap.size := by
  unfold Pow10 Lib.TabIs World.var? at h
  rw [show Tryz.prog.globalNamed "internal/strconv.uint64pow10" = some 2 by kernel_rfl] at h
  simp only [Option.bind_some] at h
  rcases Nat.lt_or_ge 2 w.heap.size with h' | h'
  · exact h'
  · simp [Array.getElem?_eq_none h'] at h
theorem Pow10.of_block {w w' : World} (h : Pow10 w) (e : w'.heap[2]? = w.heap[2]?) : Pow10 w' := by
  unfold Pow10 Lib.TabIs World.var? at *
  rw [show Tryz.prog.globalNamed "internal/strconv.uint64pow10" = some 2 by kernel_rfl] at h ⊢
  simp only [Option.bind_some] at h ⊢
  rw [e]; exact h
end Go.Proofs.YtcfbbgbjlgonpaaGreatDoor

namespace Go.Proofs.YtcfbbgbjlgonpaaGreatDoor
open Go.RowKit

/-! ### the tables, as the door lays them: the Draw laws' list -/
abbrev laidS : List (String × DataW Unit) := [("math/bits.deBruijn32tab", Rows.laid_math_bits_deBruijn32tab), ("math/bits.deBruijn64tab", Rows.laid_math_bits_deBruijn64tab), ("internal/strconv.uint64pow10", Rows.laid_internal_strconv_uint64pow10), ("oubliette/sha.k", Rows.laid_oubliette_sha_k)]
theorem door_met (os : Os) (args : Array Value) : laidMetH Tryz.prog laidS ((World.doorLaid Tryz.prog 400 os).forCall (fun _ _ => 0) ⟨#[], args, []⟩).memory :=
  laidMetH_of_parts3 (fuel := 8) (laidMet_of_run' 8 (by kernel_rfl) (by kernel_rfl)) (by kernel_rfl) (by kernel_rfl)
theorem shaK_of {W : World} (h : laidMetH Tryz.prog laidS W) : ShaK W := by
  rw [MakeChecks.laidMetH_plain _ _ _ (by kernel_rfl)] at h
  exact Lib.tabIs_of_head (g := 1) (t := 187) (e := 119) (n := 64) (by kernel_rfl) (by kernel_rfl) Tryz.underlying187 Tryz.underlying119 (by kernel_rfl) (by kernel_rfl) (laidMet.tail (laidMet.tail (laidMet.tail h)))
theorem pow10_of {W : World} (h : laidMetH Tryz.prog laidS W) : Pow10 W := by
  rw [MakeChecks.laidMetH_plain _ _ _ (by kernel_rfl)] at h
  exact Lib.tabIs_of_head (g := 2) (t := 213) (e := 83) (n := 20) (by kernel_rfl) (by kernel_rfl) Tryz.underlying213 Tryz.underlying83 (by kernel_rfl) (by kernel_rfl) (laidMet.tail (laidMet.tail h))
end Go.Proofs.YtcfbbgbjlgonpaaGreatDoor
