/- Own texts of this claim, one behind the other. No condition. -/
import Derived.Test.YtcfbbgbjlgonpaaGreatDoorObPkAA
import Derived.Test.YtcfbbgbjlgonpaaGreatDoorObPkAB
import Derived.Test.YtcfbbgbjlgonpaaGreatDoorObPkAC
import Derived.Test.YtcfbbgbjlgonpaaGreatDoorObPkAD
import Derived.Test.YtcfbbgbjlgonpaaGreatDoorObPkAF
import Derived.Test.YtcfbbgbjlgonpaaGreatDoorObPkAL
import Derived.Test.YtcfbbgbjlgonpaaGreatDoorObPkAO
import Derived.Laws.CopyOwn
import Derived.Lib.MakeNoZero
import Derived.Deep.RegionLaw
import Derived.Deep.RegionHeld3
import Derived.Lib.AppendStr
import Derived.Lib.ItoaNum
import Derived.Lib.ConvBytes
import Derived.Laws.IdiomStrings
import Derived.StillTailTactics
import Derived.Test.YtcfbbgbjlgonpaaGreatDoorRows
import Derived.ProofKit
import Derived.Lib.LaidTab
import Derived.Below
import Derived.Shelf.Strconv.Itoa0
import Derived.Shelf.Strconv.Itoa1
import Derived.Shelf.LaysM
import Derived.Shelf.Strconv.Itoa2
import Derived.Shelf.Strconv.Itoa3
import Derived.Shelf.Bits.Mul64
import Derived.Test.YtcfbbgbjlgonpaaGreatDoorProg
import Derived.Laws.Concat
import Derived.Deep.RegionWith

/- ObMacW, ObMacK, ObMacT: one text. No condition. -/
namespace Go.Proofs.YtcfbbgbjlgonpaaGreatDoor
open Go.RowKit
set_option linter.unusedVariables false

end Go.Proofs.YtcfbbgbjlgonpaaGreatDoor
namespace Go.Proofs.YtcfbbgbjlgonpaaGreatDoor
open Go.RowKit
set_option linter.unusedVariables false

/-! ### the mac -/
end Go.Proofs.YtcfbbgbjlgonpaaGreatDoor
namespace Go.Proofs.YtcfbbgbjlgonpaaGreatDoor
open Go.RowKit
set_option linter.unusedVariables false

/-- A row of rows that the call has just made: one row. -/
theorem Bss.one {w : World} {r : BRow} (h : Bs w r.a r.n r.c r.l) (t : TypeId) : Bss (w.alloc (.cells #[.slice r.a r.n r.c] t)) (some ⟨w.heap.size, 0, none⟩) 1 1 [r] := by
  refine ⟨⟨by simp, Nat.le_refl _, by simp [maxLen], fun _ => ⟨_, _, rfl, ?_⟩⟩, ?_⟩
  · intro j u hu
    have h0 : j = 0 := by have := (List.getElem?_eq_some_iff.1 hu).1; simpa using this
    subst h0
    rw [(Blk.new w _ _).cell]
    exact hu
  · intro q hq
    obtain rfl : q = r := by simpa using hq
    exact h.mono ((Below.refl _ _).alloc (Nat.le_refl _) _)
theorem Bss.two {w : World} {r s : BRow} (h : Bs w r.a r.n r.c r.l) (k : Bs w s.a s.n s.c s.l) (t : TypeId) : Bss (w.alloc (.cells #[.slice r.a r.n r.c, .slice s.a s.n s.c] t)) (some ⟨w.heap.size, 0, none⟩) 2 2 [r, s] := by
  refine ⟨⟨by simp, Nat.le_refl _, by simp [maxLen], fun _ => ⟨_, _, rfl, ?_⟩⟩, ?_⟩
  · intro j u hu
    rw [Nat.zero_add, (Blk.new w _ _).cell]
    exact hu
  · intro q hq
    rcases (by simpa using hq : q = r ∨ q = s) with rfl | rfl
    · exact h.mono ((Below.refl _ _).alloc (Nat.le_refl _) _)
    · exact k.mono ((Below.refl _ _).alloc (Nat.le_refl _) _)
end Go.Proofs.YtcfbbgbjlgonpaaGreatDoor









/- The suite of terms: what its map of sums keeps. No condition. -/
namespace Go.Proofs.YtcfbbgbjlgonpaaGreatDoor
open Go.RowKit
set_option linter.unusedVariables false
set_option linter.unusedSimpArgs false
/-- The map of sums stays. -/
def KM (bs bm : Nat) (w w' : World) : Prop := bs ≠ bm → ∀ es clock, w.heap[bs]? = some (.map es clock) → w'.heap[bs]? = some (.map es clock)
theorem KM.gr {bs bm : Nat} {w w' : World} (h : Gr w w') : KM bs bm w w' := fun _ es clock e => (h.block bs (Array.getElem?_eq_some_iff.1 e).1).trans e
theorem KM.trans {bs bm : Nat} {a b c : World} (h : KM bs bm a b) (k : KM bs bm b c) : KM bs bm a c := fun hn es clock e => k hn es clock (h hn es clock e)
theorem KM.tbl {bs bm g : Nat} {w0 w w' : World} {T : List Nd} {vl vs vl' vs' : Value} (h : TbF w0 w g T vl vs bm) (c : TChM w w' g bm vl vs vl' vs') : KM bs bm w w' := fun hn es clock e => by
  refine (c.keep bs (Array.getElem?_eq_some_iff.1 e).1 (fun q => ?_) hn (fun q => ?_) (fun q => ?_)).trans e
  · subst q
    have hk := h.x.blk
    unfold Blk at hk
    rw [hk] at e
    cases e
  · exact h.x.l.not_map e q
  · exact h.x.s.not_map e q
section
variable {w0 w : World} {p g bm bs : Nat} {T : List Nd}
set_option maxRecDepth 100000 in
set_option maxHeartbeats 2000000 in
theorem SymS.of2 (h : SymS w0 w p g bm bs T) (hn : T.length ≤ 1000) (A : Option Addr) (n c : Nat) (b : List UInt8) (hb : Bs w A n c b) :
    Calls Tryz.prog 46 #[.pointer (some ⟨p, 0, none⟩), .slice A n c] w (fun e w' => RetId w0 w p g bm bs (ofT T b) e w' ∧ KM bs bm w w') := by
  have HT := Lib.hid (h.term hn A n c b hb)
  have hl : b.length = n := by have := hb.len; simpa using this
  have hcp := hb.cap; have hmx := hb.max
  have hbl : b.length ≤ maxLen := by simp only [maxLen]; omega
  have HIN := Lib.hid (ofT_in h.i hn b hbl)
  have HS := Lib.hid h; have HB := Lib.hid hb
  unfold ofT
  by_cases h0 : 0 < termB T b
  · rw [if_pos h0]
    have t0 : decide (0 < (termB T b : Int)) = true := decide_eq_true (by omega)
    clear h hb HIN
    generalize termB T b = q at *
    go_enter Tryz.func46, Tryz.ntmps46
    go_wp2_with fail
    refine HT.out.mono ?_
    rintro e w1 ⟨rfl, g1⟩
    have G1 := Lib.hid g1; clear g1
    go_wp2_with fail
    go_ret
    exact ⟨⟨rfl, HS.out.gr G1.out, FS.gr G1.out⟩, KM.gr G1.out⟩
  · have hin := HIN.out
    unfold ofT at hin
    rw [if_neg h0] at hin ⊢
    replace HIN := Lib.hid hin
    have e0 : termB T b = 0 := by omega
    rw [e0] at HT
    clear h hb hin h0 e0
    go_enter Tryz.func46, Tryz.ntmps46
    go_wp2_with fail
    refine HT.out.mono ?_
    rintro e w1 ⟨rfl, g1⟩
    have S1 := Lib.hid (HS.out.gr g1)
    have F1 := Lib.hid (FS.gr g1)
    have K1 := Lib.hid (KM.gr (bs := bs) (bm := bm) g1)
    have c0 : w1.cell? ⟨p, 0, none⟩ = some (.pointer (some ⟨g, 0, none⟩)) := (S1.out.blk.cell 0).trans rfl
    have hcv := run_bytes_string Tryz.underlying28 Tryz.underlying5 Tryz.underlying9 (HB.out.mono (g1.trans (Gr.drew _)))
    clear g1
    go_upto_region 4 with fail
    refine wp_region_pre (by kernel_rfl) (fun w' => w' = w1.drew) (fun i => i == 4 || i == 6) (fun i => Nat.ble 7 i) [0, 1, 2, 3, 5, 4, 6] 2 (by kernel_rfl) (by kernel_rfl) (by kernel_rfl) rfl ?_
    refine wpPre_e rfl rfl ?_
    apply Exists.intro
    refine ⟨fun wq hq => ?_, ?_⟩
    · clear hq
      unfold plainAt
      go_simp
      first | exact rfl | exact ⟨rfl, rfl⟩
    go_simp
    refine wpPre_e rfl rfl ?_
    apply Exists.intro
    refine ⟨fun wq hq => ?_, ?_⟩
    · clear hq
      unfold plainAt
      go_simp
      first | exact rfl | exact ⟨rfl, rfl⟩
    go_simp
    refine wpPre_e rfl rfl ?_
    apply Exists.intro
    refine ⟨fun wq hq => ?_, ?_⟩
    · clear hq
      unfold plainAt
      go_simp
      first | exact rfl | exact ⟨rfl, rfl⟩
    go_simp
    refine wpPre_e rfl rfl ?_
    apply Exists.intro
    refine ⟨fun wq hq => ?_, ?_⟩
    · clear hq
      unfold plainAt
      go_simp
      first | exact rfl | exact ⟨rfl, rfl⟩
    go_simp
    refine wpPre_e rfl rfl ?_
    apply Exists.intro
    refine ⟨fun wq hq => ?_, ?_⟩
    · clear hq
      unfold plainAt
      go_simp
      first | exact rfl | exact ⟨rfl, rfl⟩
    go_simp
    refine wpPre_e rfl rfl ?_
    apply Exists.intro
    refine ⟨fun wq hq => ?_, ?_⟩
    · replace hq := hq rfl
      subst hq
      unfold plainAt
      go_simp
      first | exact rfl | exact ⟨rfl, rfl⟩
    go_simp
    refine wpPre_e rfl rfl ?_
    apply Exists.intro
    refine ⟨fun wq hq => ?_, ?_⟩
    · replace hq := hq rfl
      subst hq
      unfold plainAt
      go_simp
      first | exact rfl | exact ⟨rfl, rfl⟩
    go_simp
    refine wpPre_nil ?_
    clear c0 hcv
    obtain ⟨vl, vs, ht⟩ := (S1.out.gr (Gr.drew _)).t
    have HTX := Lib.hid (text_any w0 g T vl vs bm ⟨b.toArray⟩ w1.drew ht (HS.out.i.ok hn) hbl)
    have HTB := Lib.hid ht
    clear ht
    refine wpRest_one (i := 7) (by kernel_rfl) rfl rfl ?_
    intro K hK
    go_simp
    go_at_call 82
    refine HTX.out.mono ?_
    rintro e w2 ⟨vl', vs', rfl, t2, c2⟩
    have SF := Lib.hid ((S1.out.gr (Gr.drew _)).turn HTB.out t2 c2 HIN.out.1)
    have K2 := Lib.hid (KM.tbl (bs := bs) HTB.out c2)
    refine hK _ _ (fun q => by cases q) ?_
    clear hK t2 c2
    go_simp
    refine wpRest_one (i := 8) (by kernel_rfl) rfl rfl ?_
    intro K hK
    go_simp
    refine hK _ _ (fun h => by cases h) ?_
    clear hK
    go_simp
    refine wpRest_nil (by kernel_rfl) ?_
    go_wp2_with fail
    go_ret
    exact ⟨⟨rfl, SF.out.1, F1.out.trans ((FS.gr (Gr.drew _)).trans SF.out.2)⟩, K1.out.trans ((KM.gr (Gr.drew _)).trans K2.out)⟩
set_option maxRecDepth 100000 in
set_option maxHeartbeats 1000000 in
theorem SymS.draw2 (h : SymS w0 w p g bm bs T) (hn : T.length ≤ 990) :
    Calls Tryz.prog 22 #[.pointer (some ⟨p, 0, none⟩)] w (fun e w' => RetHd w0 w p g bm bs (atomT T) e w' ∧ KM bs bm w w') := by
  have HN := Lib.hid h.isNone; have HR := Lib.hid h.isReal
  have c0 := h.c0
  obtain ⟨vl, vs, ht⟩ := h.t
  have HA := Lib.hid (atom_any w0 g T vl vs bm w ht (by omega))
  have HT := Lib.hid ht; have HS := Lib.hid h
  have hl : (atomT T).2 = T.length + 1 := rfl
  clear h ht
  go_enter Tryz.func22, Tryz.ntmps22
  go_wp2_with fail
  refine HN.out.mono ?_
  rintro e w1 ⟨rfl, h1⟩
  subst h1
  go_wp2_with fail
  refine HR.out.mono ?_
  rintro e w1 ⟨rfl, h1⟩
  subst h1
  go_wp2_with fail
  refine HA.out.mono ?_
  rintro e w2 ⟨vl', vs', rfl, t2, c2⟩
  have SF := Lib.hid (HS.out.turn HT.out t2 c2 (atomT_in HS.out.i (by omega)))
  have K2 := Lib.hid (KM.tbl (bs := bs) HT.out c2)
  clear t2 c2
  go_wp2_with fail
  refine (handle_any (atomT T).2 w2 (by omega)).mono ?_
  rintro e w3 ⟨v3, rfl, o3⟩
  rw [handleL_len] at o3
  have O3 := Lib.hid (o3.base SF.out.1.below)
  have S3 := Lib.hid (SF.out.1.gr o3.below)
  have F3 := Lib.hid (SF.out.2.trans (FS.gr o3.below))
  have K3 := Lib.hid (K2.out.trans (KM.gr o3.below))
  clear o3
  go_wp2_with fail
  go_ret
  exact ⟨⟨v3, rfl, O3.out, S3.out, F3.out⟩, K3.out⟩
end
set_option maxHeartbeats 1000000 in
theorem symbolic2_any (w : World) : Calls Tryz.prog 8 #[] w fun e w' => ∃ p g bm bs, e = .returned (.pointer (some ⟨p, 0, none⟩)) ∧ SymS w w' p g bm bs [] ∧ w.heap.size ≤ p ∧ bs ≠ bm ∧ w'.heap[bs]? = some (.map #[] 0) ∧ w.heap.size ≤ bs := by
  have hmm := @run_makeMap Tryz.prog
  go_enter Tryz.func8, Tryz.ntmps8
  go_wp2_with fail
  refine (termNew_any w).mono ?_
  rintro e w1 ⟨g, bm, rfl, hf0, hg0⟩
  have HF := Lib.hid hf0; have HG := Lib.hid hg0
  clear hf0 hg0
  go_wp2_with fail
  go_ret
  have h1 := Gr.alloc w1 (.map #[] 0)
  have h2 := Gr.alloc (w1.alloc (.map #[] 0)) (.cells #[.pointer (some ⟨g, 0, none⟩), .map (some w1.heap.size), .pointer none] 60)
  refine ⟨w1.heap.size + 1, g, bm, w1.heap.size, rfl, ⟨heap_alloc2_new w1 _ _, ⟨_, _, HF.out.gr (h1.trans h2)⟩, TIn.nil⟩, by have := HG.out.size; omega, by have := HF.out.m.lt; omega, (h2.block w1.heap.size (by simp)).trans (heap_alloc_new w1 _), HG.out.size⟩
end Go.Proofs.YtcfbbgbjlgonpaaGreatDoor

/- The suite of terms: Seal. No condition. -/
namespace Go.Proofs.YtcfbbgbjlgonpaaGreatDoor
open Go.RowKit
set_option linter.unusedVariables false
set_option linter.unusedSimpArgs false
theorem boxSize_any (n : Nat) (w : World) (h : n ≤ 1000000) : Calls Tryz.prog 49 #[.int .i64 (n : Int)] w fun e w' => e = .returned (.int .i64 ((n + 48 : Nat) : Int)) ∧ w' = w := by
  have t1 : max (n : Int) 0 = n := by omega
  go_enter Tryz.func49, Tryz.ntmps49
  go_wp2_with fail
  go_ret
  exact ⟨by first | rfl | (congr 2; push_cast; omega) | simp, rfl⟩
theorem doT_enc (T : List Nd) (a b : Int) : doT T 5 a b ByteArray.empty = pairT T 5 a b := by
  unfold doT
  rw [if_neg (by decide), if_neg (by decide), if_neg (by decide), if_neg (by decide)]
theorem sealT_in {T : List Nd} (h : TIn T) (hn : T.length ≤ 900) (key text : List UInt8) (hk : key.length ≤ maxLen) (ht : text.length ≤ maxLen) : TIn (sealT T key text).1 := by
  have h1 := ofT_in h (by omega) key hk
  have h2 := ofT_in h1.1 (by omega) text ht
  have h3 := doT_in h2.1 (by omega) 5 ((ofT T key).2 : Int) ((ofT (ofT T key).1 text).2 : Int) ByteArray.empty (by decide)
  rw [doT_enc] at h3
  exact h3.1
def RetSeal (w0 w : World) (p g bm bs : Nat) (T : List Nd) (key text : List UInt8) (e : Ending) (w' : World) : Prop :=
  (∃ v, e = .returned v ∧ Own w0 w' 5 1 v (text.length + 48) ((sealB T key text).map u8c)) ∧ SymS w0 w' p g bm bs (sealT T key text).1 ∧ FS w w' ∧ KM bs bm w w'
section
variable {w0 w : World} {p g bm bs : Nat} {T : List Nd}
set_option maxRecDepth 100000 in
set_option maxHeartbeats 2000000 in
theorem SymS.seal (h : SymS w0 w p g bm bs T) (hn : T.length ≤ 900) (A B : Option Addr) (n c m d : Nat) (key text : List UInt8) (ha : Bs w A n c key) (hb : Bs w B m d text) (hn32 : n = 32) (hm : m ≤ 200) (HBK : ∀ w', FS w w' → Below w0.heap.size w0 w' → Bs w' B m d text) :
    Calls Tryz.prog 18 #[.pointer (some ⟨p, 0, none⟩), .slice A n c, .slice B m d] w (RetSeal w0 w p g bm bs T key text) := by
  subst hn32
  have hl : key.length = 32 := by have := ha.len; simpa using this
  have hl2 : text.length = m := by have := hb.len; simpa using this
  have hcp := ha.cap; have hmx := ha.max; have hcp2 := hb.cap; have hmx2 := hb.max
  have hal : key.length ≤ maxLen := by simp only [maxLen]; omega
  have hbl : text.length ≤ maxLen := by simp only [maxLen]; omega
  have HN := Lib.hid h.isNone; have HR := Lib.hid h.isReal
  have HOF := Lib.hid (h.of2 (by omega) A 32 c key ha)
  have HIN := Lib.hid (ofT_in h.i (by omega) key hal)
  have HIN1 := Lib.hid (ofT_in HIN.out.1 (by have := HIN.out.2.2; omega) text hbl)
  have HIN2 := Lib.hid (sealT_in h.i hn key text hal hbl)
  have HK := Lib.hid HBK
  have hid := pairT_id (ofT (ofT T key).1 text).1 5 ((ofT T key).2 : Int) ((ofT (ofT T key).1 text).2 : Int)
  have hid2 : (sealT T key text).2 < 9223372036854775808 := by have := HIN.out.2.2; have := HIN1.out.2.2; unfold sealT; omega
  have HSZ := Lib.hid (fun wr => boxSize_any m wr (by omega))
  have t60 : decide ((60000 : Int) < (m : Int)) = false := decide_eq_false (by omega)
  have HPB : Hid (padS (handleL (sealT T key text).2) ((m + 48 : Nat) : Int) = sealB T key text) := by
    show _ = _
    unfold padS sealB
    rw [if_pos ⟨by omega, by omega⟩, hl2]
    rfl
  have HLB : Hid ((sealB T key text).length = m + 48) := by show _ = _; rw [← hl2]; exact padL_length _ _
  clear h ha hb hid HBK
  go_enter Tryz.func18, Tryz.ntmps18
  go_wp2_with fail
  refine HN.out.mono ?_
  rintro e w1 ⟨rfl, h1⟩
  subst h1
  go_wp2_with fail
  refine HR.out.mono ?_
  rintro e w1 ⟨rfl, h1⟩
  subst h1
  go_wp2_with fail
  refine HOF.out.mono ?_
  rintro e w2 ⟨⟨rfl, s2, f2⟩, k2⟩
  have S2 := Lib.hid s2; have F2 := Lib.hid f2; have K2 := Lib.hid k2
  have HOF2 := Lib.hid ((s2.gr (Gr.drew _)).of2 (by have := HIN.out.2.2; omega) B m d text ((HK.out w2 f2 s2.below).mono (Gr.drew _)))
  have c0 := s2.c0
  clear s2 f2 k2
  go_upto_region 7 with fail
  refine wp_region_pre (by kernel_rfl) (fun w' => w'.cell? ⟨p, 0, none⟩ = some (.pointer (some ⟨g, 0, none⟩))) (fun i => i == 4) (fun _ => false) [0, 1, 2, 3, 5, 6, 7, 11, 12, 4] 6 (by kernel_rfl) (by kernel_rfl) (by kernel_rfl) c0 ?_
  refine wpPre_e rfl rfl ?_
  apply Exists.intro
  refine ⟨fun wq hq => ?_, ?_⟩
  · clear hq
    unfold plainAt
    go_simp
    first | exact rfl | exact ⟨rfl, rfl⟩
  go_simp
  refine wpPre_e rfl rfl ?_
  apply Exists.intro
  refine ⟨fun wq hq => ?_, ?_⟩
  · clear hq
    unfold plainAt
    go_simp
    first | exact rfl | exact ⟨rfl, rfl⟩
  go_simp
  refine wpPre_e rfl rfl ?_
  apply Exists.intro
  refine ⟨fun wq hq => ?_, ?_⟩
  · clear hq
    unfold plainAt
    go_simp
    first | exact rfl | exact ⟨rfl, rfl⟩
  go_simp
  refine wpPre_e rfl rfl ?_
  apply Exists.intro
  refine ⟨fun wq hq => ?_, ?_⟩
  · clear hq
    unfold plainAt
    go_simp
    first | exact rfl | exact ⟨rfl, rfl⟩
  go_simp
  refine wpPre_e rfl rfl ?_
  apply Exists.intro
  refine ⟨fun wq hq => ?_, ?_⟩
  · clear hq
    unfold plainAt
    go_simp
    first | exact rfl | exact ⟨rfl, rfl⟩
  go_simp
  refine wpPre_e rfl rfl ?_
  apply Exists.intro
  refine ⟨fun wq hq => ?_, ?_⟩
  · clear hq
    unfold plainAt
    go_simp
    first | exact rfl | exact ⟨rfl, rfl⟩
  go_simp
  refine wpPre_e rfl rfl ?_
  apply Exists.intro
  refine ⟨fun wq hq => ?_, ?_⟩
  · clear hq
    unfold plainAt
    go_simp
    first | exact rfl | exact ⟨rfl, rfl⟩
  go_simp
  refine wpPre_e rfl rfl ?_
  apply Exists.intro
  refine ⟨fun wq hq => ?_, ?_⟩
  · clear hq
    unfold plainAt
    go_simp
    first | exact rfl | exact ⟨rfl, rfl⟩
  go_simp
  refine wpPre_e rfl rfl ?_
  apply Exists.intro
  refine ⟨fun wq hq => ?_, ?_⟩
  · clear hq
    unfold plainAt
    go_simp
    first | exact rfl | exact ⟨rfl, rfl⟩
  go_simp
  refine wpPre_e rfl rfl ?_
  apply Exists.intro
  refine ⟨fun wq hq => ?_, ?_⟩
  · replace hq := hq rfl
    have z0 := hq
    unfold plainAt
    go_simp
    first | exact rfl | exact ⟨rfl, rfl⟩
  go_simp
  refine wpPre_nil ?_
  clear c0
  refine wpRest_one (i := 8) (by kernel_rfl) rfl rfl ?_
  intro K hK
  go_simp
  go_at_call 46
  refine HOF2.out.mono ?_
  rintro e w3 ⟨⟨rfl, s3, f3⟩, k3⟩
  have S3 := Lib.hid s3
  have F3 := Lib.hid (F2.out.trans ((FS.gr (Gr.drew _)).trans f3))
  have K3 := Lib.hid (K2.out.trans ((KM.gr (Gr.drew _)).trans k3))
  refine hK _ _ (fun _ => s3.c0) ?_
  clear hK s3 f3 k3
  go_simp
  refine wpRest_one (i := 9) (by kernel_rfl) rfl rfl ?_
  intro K hK
  go_simp
  go_at_call 48
  obtain ⟨vl, vs, ht⟩ := S3.out.t
  have hok : TOk (ofT (ofT T key).1 text).1 := HIN1.out.1.ok (by have := HIN.out.2.2; have := HIN1.out.2.2; omega)
  refine (enc_any w0 g (ofT (ofT T key).1 text).1 vl vs bm ((ofT T key).2 : Int) ((ofT (ofT T key).1 text).2 : Int) w3 ht hok).mono ?_
  rintro e w4 ⟨vl', vs', rfl, t4, c4⟩
  have SF := Lib.hid (S3.out.turn ht t4 c4 HIN2.out)
  have K4 := Lib.hid (K3.out.trans (KM.tbl (bs := bs) ht c4))
  refine hK _ _ (fun _ => SF.out.1.c0) ?_
  clear hK t4 c4 ht
  go_simp
  refine wpRest_one (i := 10) (by kernel_rfl) rfl rfl ?_
  intro K hK
  go_simp
  go_at_call 34
  refine (handle_any (sealT T key text).2 w4 hid2).mono ?_
  rintro e w5 ⟨v5, rfl, o5⟩
  rw [handleL_len] at o5
  obtain ⟨A5, c5, rfl, s5⟩ := o5.slice
  have B5 : Hid (Bs w5 A5 32 c5 (handleL (sealT T key text).2)) := s5
  have S5 := Lib.hid (SF.out.1.gr o5.below)
  have F5 := Lib.hid (F3.out.trans (SF.out.2.trans (FS.gr o5.below)))
  have K5 := Lib.hid (K4.out.trans (KM.gr o5.below))
  refine hK _ _ (fun _ => S5.out.c0) ?_
  clear hK o5 s5
  go_simp
  refine wpRest_one (i := 13) (by kernel_rfl) rfl rfl ?_
  intro K hK
  go_simp
  go_at_call 49
  refine (HSZ.out _).mono ?_
  rintro e w6 ⟨rfl, rfl⟩
  refine hK _ _ (fun _ => S5.out.c0) ?_
  clear hK
  go_simp
  refine wpRest_one (i := 14) (by kernel_rfl) rfl rfl ?_
  intro K hK
  go_simp
  go_at_call 47
  refine (pad_any A5 32 c5 (handleL (sealT T key text).2) ((m + 48 : Nat) : Int) w6 B5.out).mono ?_
  rintro e w7 ⟨v7, rfl, o7⟩
  rw [HPB.out, HLB.out] at o7
  have O7 := Lib.hid (o7.base S5.out.below)
  have S7 := Lib.hid (S5.out.gr o7.below)
  have F7 := Lib.hid (F5.out.trans (FS.gr o7.below))
  have K7 := Lib.hid (K5.out.trans (KM.gr o7.below))
  refine hK _ _ (fun _ => S7.out.c0) ?_
  clear hK o7
  go_simp
  refine wpRest_one (i := 15) (by kernel_rfl) rfl rfl ?_
  intro K hK
  go_simp
  refine hK _ _ (fun _ => S7.out.c0) ?_
  clear hK
  go_simp
  refine wpRest_nil (by kernel_rfl) ?_
  go_wp2_with fail
  go_ret
  exact ⟨⟨v7, rfl, by rw [hl2]; exact O7.out⟩, S7.out, F7.out, K7.out⟩
end
end Go.Proofs.YtcfbbgbjlgonpaaGreatDoor

























namespace Go.Proofs.YtcfbbgbjlgonpaaGreatDoor
open Go.RowKit
set_option linter.unusedVariables false

/-! ### stores elsewhere -/
theorem Sl.far {w : World} {A : Option Addr} {n c s : Nat} {xs : List Value} (h : Sl w A n c s xs) {p : Addr} (hp : ∀ b o, A = some ⟨b, o, none⟩ → b ≠ p.block) (u : Value) : Sl (w.setCell p u) A n c s xs := by
  obtain ⟨h1, h2, h3, h4⟩ := h
  refine ⟨h1, h2, h3, fun hn => ?_⟩
  obtain ⟨b, o, rfl, hc⟩ := h4 hn
  refine ⟨b, o, rfl, fun j u' hu => ?_⟩
  rw [World.cell?_of_block (w := w) (Below.heap_setCell w p u b (hp b o rfl))]
  exact hc j u' hu
theorem Own.block {w0 w : World} {e : TypeId} {size n : Nat} {A : Option Addr} {m c : Nat} {xs : List Value} (h : Own w0 w e size (.slice A m c) n xs) : ∀ b o, A = some ⟨b, o, none⟩ → w0.heap.size ≤ b := by
  intro b o hA
  rcases h.1.2 with ⟨h', _⟩ | ⟨g, cap, cur, hv, hg, _⟩
  · injection h' with h1 h2 h3; subst h1; cases hA
  · injection hv with h1 h2 h3; subst h1; injection hA with h; injection h with h h'; subst h; exact hg

/-! ### writes -/
theorem tRows : ElemT Tryz.prog 31 28 (.slice none 0 0) 1 24 := ⟨Tryz.underlying31, by kernel_rfl, rfl, by decide, by decide⟩
end Go.Proofs.YtcfbbgbjlgonpaaGreatDoor









/- The reference of layer 17, of a seed. No condition. -/
namespace Go.Proofs.YtcfbbgbjlgonpaaGreatDoor
open Go.RowKit
set_option linter.unusedVariables false
set_option linter.unusedSimpArgs false
/-- The cells of the document's suite of a seed, with d draws. -/
def xs (A : Option Addr) (n c d : Nat) : List Value := [.bool true, .slice A n c, .int .i64 (d : Int), .slice none 0 0, .slice none 0 0]
def xz : List Value := [.bool false, .slice none 0 0, .int .i64 0, .slice none 0 0, .slice none 0 0]
def xv (A : Option Addr) (n c d : Nat) : Value := .agg (xs A n c d).toArray
abbrev Xk (w : World) (g : Nat) (cs : List Value) : Prop := Blk w g 33 cs
theorem Xk.row {w : World} {g : Nat} {cs : List Value} (h : Xk w g cs) (ds : List Value) : Xk (w.setRow g ds.toArray) g ds := setRow_heap w g _ _ _ _ h
theorem Xk.whole {w : World} {g : Nat} {cs : List Value} (h : Xk w g cs) : w.rangeAt g 0 cs := fun j v hv => by rw [Nat.zero_add, Blk.cell h]; exact hv
/-- The document's suite in a call: its own block, and the result's. -/
structure XM (w : World) (h : Nat) (xa xb : List Value) (W : World) : Prop where
  gr : Gr w W
  a : Xk W h xa
  b : Xk W (h + 1) xb
theorem XM.mono {w W W' : World} {h : Nat} {xa xb : List Value} (x : XM w h xa xb W) (g : Gr W W') : XM w h xa xb W' := ⟨x.gr.trans g, g.blk x.a, g.blk x.b⟩
theorem XM.set {w W : World} {h : Nat} {A : Option Addr} {n c d : Nat} {xb : List Value} (x : XM w h (xs A n c d) xb W) (hw : w.heap.size ≤ h) : XM w h (xs A n c (d + 1)) xb (W.setCell ⟨h, 2, none⟩ (.int .i64 ((d : Int) + 1))) :=
  ⟨x.gr.setCell (p := ⟨h, 2, none⟩) hw _, Blk.set x.a 2 _, (Below.heap_setCell _ ⟨h, 2, none⟩ _ (h + 1) (by show h + 1 ≠ h; omega)).trans x.b⟩
theorem XM.ret {w W : World} {h : Nat} {xa xb : List Value} (x : XM w h xa xb W) (hw : w.heap.size ≤ h) (ds : List Value) : XM w h xa ds (W.setRow (h + 1) ds.toArray) :=
  ⟨byRow_below x.gr (by omega) _, (setRow_other W (h + 1) h _ (by omega)).trans x.a, x.b.row ds⟩
/-- Bytes stay where the document's suite turns. -/
theorem Bs.x {w w' : World} {A : Option Addr} {n c h : Nat} {l : List UInt8} {xa xb : List Value} (hb : Bs w A n c l) (ha : Xk w h xa) (hbb : Xk w (h + 1) xb) (na : ∀ u ∈ xa, ∀ x : UInt8, u ≠ u8c x) (nb : ∀ u ∈ xb, ∀ x : UInt8, u ≠ u8c x) (k : Tch (fun b => b = h ∨ b = h + 1) w w') : Bs w' A n c l := by
  have hx : ∀ cs : List Value, (∀ u ∈ cs, ∀ x : UInt8, u ≠ u8c x) → ∀ u ∈ cs, ∀ y, (l.map u8c)[0]? = some y → u ≠ y := fun cs hn u hu y hy => by
    rw [List.getElem?_map] at hy
    obtain ⟨z, _, rfl⟩ := Option.map_eq_some_iff.1 hy
    exact hn u hu z
  refine Sl.tch hb (by decide) k (fun hn b o e => ?_)
  have h1 := Sl.not_blk hb (by decide) ha (hx _ na) hn e
  have h2 := Sl.not_blk hb (by decide) hbb (hx _ nb) hn e
  rintro (q | q)
  · exact h1 q
  · exact h2 q
theorem xz_not : ∀ u ∈ xz, ∀ x : UInt8, u ≠ u8c x := fun u hu x e => by
  subst e
  simp [xz, u8c] at hu
/-- New memory. -/
def FreshR (w : World) (A : Option Addr) (n : Nat) : Prop := ∀ b o, 0 < n → A = some ⟨b, o, none⟩ → w.heap.size ≤ b
theorem FreshR.nil (w : World) : FreshR w none 0 := fun b o _ e => by cases e
theorem Own.fresh {w0 w : World} {e : TypeId} {s n c : Nat} {A : Option Addr} {xs : List Value} (h : Own w0 w e s (.slice A n c) n xs) : FreshR w0 A n := fun b o hn ea => by
  obtain ⟨g, cap, rest, hv, hg, _⟩ := h.opened hn
  injection hv with hv
  rw [ea] at hv
  injection hv with hv
  injection hv with h1 h2
  omega
theorem FreshR.old {w0 w : World} {A : Option Addr} {n : Nat} (h : FreshR w A n) (hw : w0.heap.size ≤ w.heap.size) : FreshR w0 A n := fun b o hn e => Nat.le_trans hw (h b o hn e)
end Go.Proofs.YtcfbbgbjlgonpaaGreatDoor









/- The reference of layer 17, of a seed: what draws nothing. No condition. -/
namespace Go.Proofs.YtcfbbgbjlgonpaaGreatDoor
open Go.RowKit
set_option linter.unusedVariables false
set_option linter.unusedSimpArgs false
/-! ### what answers alone -/
theorem run_8to16 (g o n c : Nat) (h2 : 16 ≤ c) (w : World) : (Instr.slice 28 (.slice (some ⟨g, o, none⟩) n c) (some (.int .i64 8)) (some (.int .i64 16)) none).run Tryz.prog w = .ok (.slice (some ⟨g, o + 8, none⟩) 8 (c - 8)) w := by
  obtain ⟨i, hi, hz, hsz, hby⟩ := info_parts tBytes.info
  have he : Tryz.prog.elem 28 = 5 := by simp [Program.elem, tBytes.und]
  have hu : Tryz.prog.underlying 28 = some (.slice (Tryz.prog.elem 28)) := by rw [he]; exact tBytes.und
  rw [run_slice_lh w 28 (some ⟨g, o, none⟩) n c hu .i64 .i64 8 16 (by omega) (by omega) (by omega)]
  have h3 : ¬ c = 8 := by omega
  simp [sizeOf, typeInfo, he, hi, Result.andThen, sliced, hsz, add_flat, h3]
end Go.Proofs.YtcfbbgbjlgonpaaGreatDoor
