/- Own texts of this claim, one behind the other. No condition. -/
import Derived.Test.YtcfbbgbjlgonpaaGreatDoorObPkAP

/- The suite of terms: what its calls leave. No condition. -/
namespace Go.Proofs.YtcfbbgbjlgonpaaGreatDoor
open Go.RowKit
set_option linter.unusedVariables false
set_option linter.unusedSimpArgs false
/-- All blocks stay but the table's own, and its map. -/
def KZ (bm : Nat) (w w' : World) : Prop := w.heap.size ≤ w'.heap.size ∧ ∀ b, b < w.heap.size → b ≠ bm → (∀ t cs, Blk w b t cs → t ≠ 68 ∧ t ≠ 20 ∧ t ≠ 3) → w'.heap[b]? = w.heap[b]?
theorem KZ.gr {bm : Nat} {w w' : World} (h : Gr w w') : KZ bm w w' := ⟨h.size, fun b hb _ _ => h.block b hb⟩
theorem KZ.trans {bm : Nat} {a b c : World} (h : KZ bm a b) (k : KZ bm b c) : KZ bm a c := ⟨Nat.le_trans h.1 k.1, fun x hx hm ht => by
  have e := h.2 x hx hm ht
  refine (k.2 x (Nat.lt_of_lt_of_le hx h.1) hm (fun t cs q => ht t cs ?_)).trans e
  unfold Blk at q ⊢
  rwa [e] at q⟩
theorem Own.blk_at {w0 w : World} {e : TypeId} {s n : Nat} {v : Value} {xs : List Value} (h : Own w0 w e s v n xs) {b : Nat} (hb : v.ownBlock = some b) : ∃ cs, Blk w b e cs := by
  rcases h.1.2 with ⟨q, _⟩ | ⟨g', cap, cur, hv', _, hh, _⟩
  · rw [q] at hb; cases hb
  · have e1 : g' = b := by rw [hv'] at hb; exact Option.some.inj hb
    subst e1
    exact ⟨cur.toList, by unfold Blk; rw [Array.toArray_toList]; exact hh⟩
theorem KZ.tbl {bm g : Nat} {w0 w w' : World} {T : List Nd} {vl vs vl' vs' : Value} (h : TbF w0 w g T vl vs bm) (c : TChM w w' g bm vl vs vl' vs') : KZ bm w w' := ⟨c.size, fun b hb hm ht => by
  refine c.keep b hb (fun e => ?_) hm (fun e => ?_) (fun e => ?_)
  · subst e; exact (ht _ _ h.x.blk).1 rfl
  · obtain ⟨cs, k⟩ := h.x.l.blk_at e; exact (ht _ _ k).2.1 rfl
  · obtain ⟨cs, k⟩ := h.x.s.blk_at e; exact (ht _ _ k).2.2 rfl⟩
theorem KZ.fs {bm : Nat} {w w' : World} (h : KZ bm w w') (hm : ∀ t cs, ¬ Blk w bm t cs) : FS w w' := fun g t cs h1 h2 h3 hb => by
  refine (h.2 g hb.lt (fun e => ?_) (fun t' cs' k => ?_)).trans hb
  · subst e; exact hm _ _ hb
  · have : t = t' := by
      unfold Blk at hb k
      rw [hb] at k
      injection k with k
      injection k
    subst this
    exact ⟨h1, h2, h3⟩
def RetHz (w0 w : World) (p g bm bs : Nat) (r : List Nd × Nat) (e : Ending) (w' : World) : Prop := RetHd w0 w p g bm bs r e w' ∧ KZ bm w w'
section
variable {w0 w : World} {p g bm bs : Nat} {T : List Nd}
def RetSealZ (w0 w : World) (p g bm bs : Nat) (T : List Nd) (key text : List UInt8) (e : Ending) (w' : World) : Prop :=
  (∃ v, e = .returned v ∧ Own w0 w' 5 1 v (text.length + 48) ((sealB T key text).map u8c)) ∧ SymS w0 w' p g bm bs (sealT T key text).1 ∧ FS w w' ∧ KZ bm w w'
set_option maxRecDepth 100000 in
set_option maxHeartbeats 2000000 in
theorem SymS.of3 (h : SymS w0 w p g bm bs T) (hn : T.length ≤ 1000) (A : Option Addr) (n c : Nat) (b : List UInt8) (hb : Bs w A n c b) :
    Calls Tryz.prog 46 #[.pointer (some ⟨p, 0, none⟩), .slice A n c] w (fun e w' => RetId w0 w p g bm bs (ofT T b) e w' ∧ KZ bm w w') := by
  have HT := Lib.hid (h.term hn A n c b hb)
  have hl : b.length = n := by have := hb.len; simpa using this
  have hcp := hb.cap; have hmx := hb.max
  have hbl : b.length ≤ maxLen := by simp only [maxLen]; omega
  have HIN := Lib.hid (ofT_in h.i hn b hbl)
  have HS := Lib.hid h; have HB := Lib.hid hb
  unfold ofT
  by_cases h0 : 0 < termB T b
  · rw [if_pos h0]
    have t0 : decide (0 < (termB T b : Int)) = true := decide_eq_true (by omega)
    clear h hb HIN
    generalize termB T b = q at *
    go_enter Tryz.func46, Tryz.ntmps46
    go_wp2_with fail
    refine HT.out.mono ?_
    rintro e w1 ⟨rfl, g1⟩
    have G1 := Lib.hid g1; clear g1
    go_wp2_with fail
    go_ret
    exact ⟨⟨rfl, HS.out.gr G1.out, FS.gr G1.out⟩, KZ.gr G1.out⟩
  · have hin := HIN.out
    unfold ofT at hin
    rw [if_neg h0] at hin ⊢
    replace HIN := Lib.hid hin
    have e0 : termB T b = 0 := by omega
    rw [e0] at HT
    clear h hb hin h0 e0
    go_enter Tryz.func46, Tryz.ntmps46
    go_wp2_with fail
    refine HT.out.mono ?_
    rintro e w1 ⟨rfl, g1⟩
    have S1 := Lib.hid (HS.out.gr g1)
    have F1 := Lib.hid (FS.gr g1)
    have K1 := Lib.hid (KZ.gr (bm := bm) g1)
    have c0 : w1.cell? ⟨p, 0, none⟩ = some (.pointer (some ⟨g, 0, none⟩)) := (S1.out.blk.cell 0).trans rfl
    have hcv := run_bytes_string Tryz.underlying28 Tryz.underlying5 Tryz.underlying9 (HB.out.mono (g1.trans (Gr.drew _)))
    clear g1
    go_upto_region 4 with fail
    refine wp_region_pre (by kernel_rfl) (fun w' => w' = w1.drew) (fun i => i == 4 || i == 6) (fun i => Nat.ble 7 i) [0, 1, 2, 3, 5, 4, 6] 2 (by kernel_rfl) (by kernel_rfl) (by kernel_rfl) rfl ?_
    refine wpPre_e rfl rfl ?_
    apply Exists.intro
    refine ⟨fun wq hq => ?_, ?_⟩
    · clear hq
      unfold plainAt
      go_simp
      first | exact rfl | exact ⟨rfl, rfl⟩
    go_simp
    refine wpPre_e rfl rfl ?_
    apply Exists.intro
    refine ⟨fun wq hq => ?_, ?_⟩
    · clear hq
      unfold plainAt
      go_simp
      first | exact rfl | exact ⟨rfl, rfl⟩
    go_simp
    refine wpPre_e rfl rfl ?_
    apply Exists.intro
    refine ⟨fun wq hq => ?_, ?_⟩
    · clear hq
      unfold plainAt
      go_simp
      first | exact rfl | exact ⟨rfl, rfl⟩
    go_simp
    refine wpPre_e rfl rfl ?_
    apply Exists.intro
    refine ⟨fun wq hq => ?_, ?_⟩
    · clear hq
      unfold plainAt
      go_simp
      first | exact rfl | exact ⟨rfl, rfl⟩
    go_simp
    refine wpPre_e rfl rfl ?_
    apply Exists.intro
    refine ⟨fun wq hq => ?_, ?_⟩
    · clear hq
      unfold plainAt
      go_simp
      first | exact rfl | exact ⟨rfl, rfl⟩
    go_simp
    refine wpPre_e rfl rfl ?_
    apply Exists.intro
    refine ⟨fun wq hq => ?_, ?_⟩
    · replace hq := hq rfl
      subst hq
      unfold plainAt
      go_simp
      first | exact rfl | exact ⟨rfl, rfl⟩
    go_simp
    refine wpPre_e rfl rfl ?_
    apply Exists.intro
    refine ⟨fun wq hq => ?_, ?_⟩
    · replace hq := hq rfl
      subst hq
      unfold plainAt
      go_simp
      first | exact rfl | exact ⟨rfl, rfl⟩
    go_simp
    refine wpPre_nil ?_
    clear c0 hcv
    obtain ⟨vl, vs, ht⟩ := (S1.out.gr (Gr.drew _)).t
    have HTX := Lib.hid (text_any w0 g T vl vs bm ⟨b.toArray⟩ w1.drew ht (HS.out.i.ok hn) hbl)
    have HTB := Lib.hid ht
    clear ht
    refine wpRest_one (i := 7) (by kernel_rfl) rfl rfl ?_
    intro K hK
    go_simp
    go_at_call 82
    refine HTX.out.mono ?_
    rintro e w2 ⟨vl', vs', rfl, t2, c2⟩
    have SF := Lib.hid ((S1.out.gr (Gr.drew _)).turn HTB.out t2 c2 HIN.out.1)
    have K2 := Lib.hid (KZ.tbl HTB.out c2)
    refine hK _ _ (fun q => by cases q) ?_
    clear hK t2 c2
    go_simp
    refine wpRest_one (i := 8) (by kernel_rfl) rfl rfl ?_
    intro K hK
    go_simp
    refine hK _ _ (fun h => by cases h) ?_
    clear hK
    go_simp
    refine wpRest_nil (by kernel_rfl) ?_
    go_wp2_with fail
    go_ret
    exact ⟨⟨rfl, SF.out.1, F1.out.trans ((FS.gr (Gr.drew _)).trans SF.out.2)⟩, K1.out.trans ((KZ.gr (Gr.drew _)).trans K2.out)⟩
set_option maxRecDepth 100000 in
set_option maxHeartbeats 1000000 in
theorem SymS.draw3 (h : SymS w0 w p g bm bs T) (hn : T.length ≤ 990) :
    Calls Tryz.prog 22 #[.pointer (some ⟨p, 0, none⟩)] w (fun e w' => RetHd w0 w p g bm bs (atomT T) e w' ∧ KZ bm w w') := by
  have HN := Lib.hid h.isNone; have HR := Lib.hid h.isReal
  have c0 := h.c0
  obtain ⟨vl, vs, ht⟩ := h.t
  have HA := Lib.hid (atom_any w0 g T vl vs bm w ht (by omega))
  have HT := Lib.hid ht; have HS := Lib.hid h
  have hl : (atomT T).2 = T.length + 1 := rfl
  clear h ht
  go_enter Tryz.func22, Tryz.ntmps22
  go_wp2_with fail
  refine HN.out.mono ?_
  rintro e w1 ⟨rfl, h1⟩
  subst h1
  go_wp2_with fail
  refine HR.out.mono ?_
  rintro e w1 ⟨rfl, h1⟩
  subst h1
  go_wp2_with fail
  refine HA.out.mono ?_
  rintro e w2 ⟨vl', vs', rfl, t2, c2⟩
  have SF := Lib.hid (HS.out.turn HT.out t2 c2 (atomT_in HS.out.i (by omega)))
  have K2 := Lib.hid (KZ.tbl HT.out c2)
  clear t2 c2
  go_wp2_with fail
  refine (handle_any (atomT T).2 w2 (by omega)).mono ?_
  rintro e w3 ⟨v3, rfl, o3⟩
  rw [handleL_len] at o3
  have O3 := Lib.hid (o3.base SF.out.1.below)
  have S3 := Lib.hid (SF.out.1.gr o3.below)
  have F3 := Lib.hid (SF.out.2.trans (FS.gr o3.below))
  have K3 := Lib.hid (K2.out.trans (KZ.gr o3.below))
  clear o3
  go_wp2_with fail
  go_ret
  exact ⟨⟨v3, rfl, O3.out, S3.out, F3.out⟩, K3.out⟩
set_option maxRecDepth 100000 in
set_option maxHeartbeats 2000000 in
theorem SymS.seal3 (h : SymS w0 w p g bm bs T) (hn : T.length ≤ 900) (A B : Option Addr) (n c m d : Nat) (key text : List UInt8) (ha : Bs w A n c key) (hb : Bs w B m d text) (hn32 : n = 32) (hm : m ≤ 20000) (HBK : ∀ w', KZ bm w w' → Below w0.heap.size w0 w' → Bs w' B m d text) :
    Calls Tryz.prog 18 #[.pointer (some ⟨p, 0, none⟩), .slice A n c, .slice B m d] w (RetSealZ w0 w p g bm bs T key text) := by
  subst hn32
  have hl : key.length = 32 := by have := ha.len; simpa using this
  have hl2 : text.length = m := by have := hb.len; simpa using this
  have hcp := ha.cap; have hmx := ha.max; have hcp2 := hb.cap; have hmx2 := hb.max
  have hal : key.length ≤ maxLen := by simp only [maxLen]; omega
  have hbl : text.length ≤ maxLen := by simp only [maxLen]; omega
  have HN := Lib.hid h.isNone; have HR := Lib.hid h.isReal
  have HOF := Lib.hid (h.of3 (by omega) A 32 c key ha)
  have HIN := Lib.hid (ofT_in h.i (by omega) key hal)
  have HIN1 := Lib.hid (ofT_in HIN.out.1 (by have := HIN.out.2.2; omega) text hbl)
  have HIN2 := Lib.hid (sealT_in h.i hn key text hal hbl)
  have HK := Lib.hid HBK
  have hid := pairT_id (ofT (ofT T key).1 text).1 5 ((ofT T key).2 : Int) ((ofT (ofT T key).1 text).2 : Int)
  have hid2 : (sealT T key text).2 < 9223372036854775808 := by have := HIN.out.2.2; have := HIN1.out.2.2; unfold sealT; omega
  have HSZ := Lib.hid (fun wr => boxSize_any m wr (by omega))
  have t60 : decide ((60000 : Int) < (m : Int)) = false := decide_eq_false (by omega)
  have HPB : Hid (padS (handleL (sealT T key text).2) ((m + 48 : Nat) : Int) = sealB T key text) := by
    show _ = _
    unfold padS sealB
    rw [if_pos ⟨by omega, by omega⟩, hl2]
    rfl
  have HLB : Hid ((sealB T key text).length = m + 48) := by show _ = _; rw [← hl2]; exact padL_length _ _
  clear h ha hb hid HBK
  go_enter Tryz.func18, Tryz.ntmps18
  go_wp2_with fail
  refine HN.out.mono ?_
  rintro e w1 ⟨rfl, h1⟩
  subst h1
  go_wp2_with fail
  refine HR.out.mono ?_
  rintro e w1 ⟨rfl, h1⟩
  subst h1
  go_wp2_with fail
  refine HOF.out.mono ?_
  rintro e w2 ⟨⟨rfl, s2, f2⟩, k2⟩
  have S2 := Lib.hid s2; have F2 := Lib.hid f2; have K2 := Lib.hid k2
  have HOF2 := Lib.hid ((s2.gr (Gr.drew _)).of3 (by have := HIN.out.2.2; omega) B m d text ((HK.out w2 k2 s2.below).mono (Gr.drew _)))
  have c0 := s2.c0
  clear s2 f2 k2
  go_upto_region 7 with fail
  refine wp_region_pre (by kernel_rfl) (fun w' => w'.cell? ⟨p, 0, none⟩ = some (.pointer (some ⟨g, 0, none⟩))) (fun i => i == 4) (fun _ => false) [0, 1, 2, 3, 5, 6, 7, 11, 12, 4] 6 (by kernel_rfl) (by kernel_rfl) (by kernel_rfl) c0 ?_
  refine wpPre_e rfl rfl ?_
  apply Exists.intro
  refine ⟨fun wq hq => ?_, ?_⟩
  · clear hq
    unfold plainAt
    go_simp
    first | exact rfl | exact ⟨rfl, rfl⟩
  go_simp
  refine wpPre_e rfl rfl ?_
  apply Exists.intro
  refine ⟨fun wq hq => ?_, ?_⟩
  · clear hq
    unfold plainAt
    go_simp
    first | exact rfl | exact ⟨rfl, rfl⟩
  go_simp
  refine wpPre_e rfl rfl ?_
  apply Exists.intro
  refine ⟨fun wq hq => ?_, ?_⟩
  · clear hq
    unfold plainAt
    go_simp
    first | exact rfl | exact ⟨rfl, rfl⟩
  go_simp
  refine wpPre_e rfl rfl ?_
  apply Exists.intro
  refine ⟨fun wq hq => ?_, ?_⟩
  · clear hq
    unfold plainAt
    go_simp
    first | exact rfl | exact ⟨rfl, rfl⟩
  go_simp
  refine wpPre_e rfl rfl ?_
  apply Exists.intro
  refine ⟨fun wq hq => ?_, ?_⟩
  · clear hq
    unfold plainAt
    go_simp
    first | exact rfl | exact ⟨rfl, rfl⟩
  go_simp
  refine wpPre_e rfl rfl ?_
  apply Exists.intro
  refine ⟨fun wq hq => ?_, ?_⟩
  · clear hq
    unfold plainAt
    go_simp
    first | exact rfl | exact ⟨rfl, rfl⟩
  go_simp
  refine wpPre_e rfl rfl ?_
  apply Exists.intro
  refine ⟨fun wq hq => ?_, ?_⟩
  · clear hq
    unfold plainAt
    go_simp
    first | exact rfl | exact ⟨rfl, rfl⟩
  go_simp
  refine wpPre_e rfl rfl ?_
  apply Exists.intro
  refine ⟨fun wq hq => ?_, ?_⟩
  · clear hq
    unfold plainAt
    go_simp
    first | exact rfl | exact ⟨rfl, rfl⟩
  go_simp
  refine wpPre_e rfl rfl ?_
  apply Exists.intro
  refine ⟨fun wq hq => ?_, ?_⟩
  · clear hq
    unfold plainAt
    go_simp
    first | exact rfl | exact ⟨rfl, rfl⟩
  go_simp
  refine wpPre_e rfl rfl ?_
  apply Exists.intro
  refine ⟨fun wq hq => ?_, ?_⟩
  · replace hq := hq rfl
    have z0 := hq
    unfold plainAt
    go_simp
    first | exact rfl | exact ⟨rfl, rfl⟩
  go_simp
  refine wpPre_nil ?_
  clear c0
  refine wpRest_one (i := 8) (by kernel_rfl) rfl rfl ?_
  intro K hK
  go_simp
  go_at_call 46
  refine HOF2.out.mono ?_
  rintro e w3 ⟨⟨rfl, s3, f3⟩, k3⟩
  have S3 := Lib.hid s3
  have F3 := Lib.hid (F2.out.trans ((FS.gr (Gr.drew _)).trans f3))
  have K3 := Lib.hid (K2.out.trans ((KZ.gr (Gr.drew _)).trans k3))
  refine hK _ _ (fun _ => s3.c0) ?_
  clear hK s3 f3 k3
  go_simp
  refine wpRest_one (i := 9) (by kernel_rfl) rfl rfl ?_
  intro K hK
  go_simp
  go_at_call 48
  obtain ⟨vl, vs, ht⟩ := S3.out.t
  have hok : TOk (ofT (ofT T key).1 text).1 := HIN1.out.1.ok (by have := HIN.out.2.2; have := HIN1.out.2.2; omega)
  refine (enc_any w0 g (ofT (ofT T key).1 text).1 vl vs bm ((ofT T key).2 : Int) ((ofT (ofT T key).1 text).2 : Int) w3 ht hok).mono ?_
  rintro e w4 ⟨vl', vs', rfl, t4, c4⟩
  have SF := Lib.hid (S3.out.turn ht t4 c4 HIN2.out)
  have K4 := Lib.hid (K3.out.trans (KZ.tbl ht c4))
  refine hK _ _ (fun _ => SF.out.1.c0) ?_
  clear hK t4 c4 ht
  go_simp
  refine wpRest_one (i := 10) (by kernel_rfl) rfl rfl ?_
  intro K hK
  go_simp
  go_at_call 34
  refine (handle_any (sealT T key text).2 w4 hid2).mono ?_
  rintro e w5 ⟨v5, rfl, o5⟩
  rw [handleL_len] at o5
  obtain ⟨A5, c5, rfl, s5⟩ := o5.slice
  have B5 : Hid (Bs w5 A5 32 c5 (handleL (sealT T key text).2)) := s5
  have S5 := Lib.hid (SF.out.1.gr o5.below)
  have F5 := Lib.hid (F3.out.trans (SF.out.2.trans (FS.gr o5.below)))
  have K5 := Lib.hid (K4.out.trans (KZ.gr o5.below))
  refine hK _ _ (fun _ => S5.out.c0) ?_
  clear hK o5 s5
  go_simp
  refine wpRest_one (i := 13) (by kernel_rfl) rfl rfl ?_
  intro K hK
  go_simp
  go_at_call 49
  refine (HSZ.out _).mono ?_
  rintro e w6 ⟨rfl, rfl⟩
  refine hK _ _ (fun _ => S5.out.c0) ?_
  clear hK
  go_simp
  refine wpRest_one (i := 14) (by kernel_rfl) rfl rfl ?_
  intro K hK
  go_simp
  go_at_call 47
  refine (pad_any A5 32 c5 (handleL (sealT T key text).2) ((m + 48 : Nat) : Int) w6 B5.out).mono ?_
  rintro e w7 ⟨v7, rfl, o7⟩
  rw [HPB.out, HLB.out] at o7
  have O7 := Lib.hid (o7.base S5.out.below)
  have S7 := Lib.hid (S5.out.gr o7.below)
  have F7 := Lib.hid (F5.out.trans (FS.gr o7.below))
  have K7 := Lib.hid (K5.out.trans (KZ.gr o7.below))
  refine hK _ _ (fun _ => S7.out.c0) ?_
  clear hK o7
  go_simp
  refine wpRest_one (i := 15) (by kernel_rfl) rfl rfl ?_
  intro K hK
  go_simp
  refine hK _ _ (fun _ => S7.out.c0) ?_
  clear hK
  go_simp
  refine wpRest_nil (by kernel_rfl) ?_
  go_wp2_with fail
  go_ret
  exact ⟨⟨v7, rfl, by rw [hl2]; exact O7.out⟩, S7.out, F7.out, K7.out⟩
set_option maxRecDepth 100000 in
set_option maxHeartbeats 2000000 in
theorem SymS.derive3 (h : SymS w0 w p g bm bs T) (hn : T.length ≤ 990) (A : Option Addr) (n c : Nat) (b : List UInt8) (hb : Bs w A n c b) (s : ByteArray) (hs : s.size ≤ maxLen) :
    Calls Tryz.prog 23 #[.pointer (some ⟨p, 0, none⟩), .slice A n c, .string s] w (RetHz w0 w p g bm bs (derT T b s)) := by
  have hl : b.length = n := by have := hb.len; simpa using this
  have hcp := hb.cap; have hmx := hb.max
  have hbl : b.length ≤ maxLen := by simp only [maxLen]; omega
  have HN := Lib.hid h.isNone; have HR := Lib.hid h.isReal
  have HOF := Lib.hid ((h.gr (Gr.drew w)).of3 (by omega) A n c b (hb.mono (Gr.drew w)))
  have HIN := Lib.hid (ofT_in h.i (by omega) b hbl)
  have HIN2 := Lib.hid (derT_in h.i (by omega) b hbl s hs)
  have c0 := h.c0
  have HSS := Lib.hid hs
  have hid := kdfT_id (ofT T b).1 ((ofT T b).2 : Int) s
  have hid2 : (derT T b s).2 < 9223372036854775808 := by have := HIN.out.2.2; unfold derT; omega
  clear h hb hs hid
  go_enter Tryz.func23, Tryz.ntmps23
  go_wp2_with fail
  refine HN.out.mono ?_
  rintro e w1 ⟨rfl, h1⟩
  subst h1
  go_wp2_with fail
  refine HR.out.mono ?_
  rintro e w1 ⟨rfl, h1⟩
  subst h1
  go_upto_region 5 with fail
  refine wp_region_pre (by kernel_rfl) (fun w' => w'.cell? ⟨p, 0, none⟩ = some (.pointer (some ⟨g, 0, none⟩))) (fun i => i == 4) (fun _ => false) [0, 1, 2, 3, 5, 6, 8, 4] 4 (by kernel_rfl) (by kernel_rfl) (by kernel_rfl) c0 ?_
  refine wpPre_e rfl rfl ?_
  apply Exists.intro
  refine ⟨fun wq hq => ?_, ?_⟩
  · clear hq
    unfold plainAt
    go_simp
    first | exact rfl | exact ⟨rfl, rfl⟩
  go_simp
  refine wpPre_e rfl rfl ?_
  apply Exists.intro
  refine ⟨fun wq hq => ?_, ?_⟩
  · clear hq
    unfold plainAt
    go_simp
    first | exact rfl | exact ⟨rfl, rfl⟩
  go_simp
  refine wpPre_e rfl rfl ?_
  apply Exists.intro
  refine ⟨fun wq hq => ?_, ?_⟩
  · clear hq
    unfold plainAt
    go_simp
    first | exact rfl | exact ⟨rfl, rfl⟩
  go_simp
  refine wpPre_e rfl rfl ?_
  apply Exists.intro
  refine ⟨fun wq hq => ?_, ?_⟩
  · clear hq
    unfold plainAt
    go_simp
    first | exact rfl | exact ⟨rfl, rfl⟩
  go_simp
  refine wpPre_e rfl rfl ?_
  apply Exists.intro
  refine ⟨fun wq hq => ?_, ?_⟩
  · clear hq
    unfold plainAt
    go_simp
    first | exact rfl | exact ⟨rfl, rfl⟩
  go_simp
  refine wpPre_e rfl rfl ?_
  apply Exists.intro
  refine ⟨fun wq hq => ?_, ?_⟩
  · clear hq
    unfold plainAt
    go_simp
    first | exact rfl | exact ⟨rfl, rfl⟩
  go_simp
  refine wpPre_e rfl rfl ?_
  apply Exists.intro
  refine ⟨fun wq hq => ?_, ?_⟩
  · clear hq
    unfold plainAt
    go_simp
    first | exact rfl | exact ⟨rfl, rfl⟩
  go_simp
  refine wpPre_e rfl rfl ?_
  apply Exists.intro
  refine ⟨fun wq hq => ?_, ?_⟩
  · replace hq := hq rfl
    have z0 := hq
    unfold plainAt
    go_simp
    first | exact rfl | exact ⟨rfl, rfl⟩
  go_simp
  refine wpPre_nil ?_
  clear c0
  refine wpRest_one (i := 7) (by kernel_rfl) rfl rfl ?_
  intro K hK
  go_simp
  go_at_call 46
  refine HOF.out.mono ?_
  rintro e w2 ⟨⟨rfl, s2, f2⟩, k2⟩
  have S2 := Lib.hid s2
  have F2 := Lib.hid ((FS.gr (Gr.drew _)).trans f2)
  have K2 := Lib.hid ((KZ.gr (Gr.drew _)).trans k2)
  refine hK _ _ (fun _ => s2.c0) ?_
  clear hK s2 f2 k2
  go_simp
  refine wpRest_one (i := 9) (by kernel_rfl) rfl rfl ?_
  intro K hK
  go_simp
  go_at_call 58
  obtain ⟨vl, vs, ht⟩ := S2.out.t
  have hok : TOk (ofT T b).1 := HIN.out.1.ok (by have := HIN.out.2.2; omega)
  refine (kdf_any w0 g (ofT T b).1 vl vs bm ((ofT T b).2 : Int) s w2 ht hok HSS.out).mono ?_
  rintro e w3 ⟨vl', vs', rfl, t3, c3⟩
  have SF := Lib.hid (S2.out.turn ht t3 c3 HIN2.out.1)
  have K3 := Lib.hid (K2.out.trans (KZ.tbl ht c3))
  refine hK _ _ (fun _ => SF.out.1.c0) ?_
  clear hK t3 c3 ht
  go_simp
  refine wpRest_one (i := 10) (by kernel_rfl) rfl rfl ?_
  intro K hK
  go_simp
  go_at_call 34
  refine (handle_any (derT T b s).2 w3 hid2).mono ?_
  rintro e w4 ⟨v4, rfl, o4⟩
  rw [handleL_len] at o4
  have O4 := Lib.hid (o4.base SF.out.1.below)
  have S4 := Lib.hid (SF.out.1.gr o4.below)
  have K4 := Lib.hid (K3.out.trans (KZ.gr o4.below))
  have F4 := Lib.hid (F2.out.trans (SF.out.2.trans (FS.gr o4.below)))
  refine hK _ _ (fun _ => S4.out.c0) ?_
  clear hK o4
  go_simp
  refine wpRest_one (i := 11) (by kernel_rfl) rfl rfl ?_
  intro K hK
  go_simp
  refine hK _ _ (fun _ => S4.out.c0) ?_
  clear hK
  go_simp
  refine wpRest_nil (by kernel_rfl) ?_
  go_wp2_with fail
  go_ret
  exact ⟨⟨v4, rfl, O4.out, S4.out, F4.out⟩, K4.out⟩
set_option maxRecDepth 100000 in
set_option maxHeartbeats 2000000 in
theorem SymS.mix3 (h : SymS w0 w p g bm bs T) (hn : T.length ≤ 990) (A B : Option Addr) (n c m d : Nat) (a b : List UInt8) (ha : Bs w A n c a) (hb : Bs w B m d b) (HBK : ∀ w', KZ bm w w' → Below w0.heap.size w0 w' → Bs w' B m d b) :
    Calls Tryz.prog 24 #[.pointer (some ⟨p, 0, none⟩), .slice A n c, .slice B m d] w (RetHz w0 w p g bm bs (mixT T a b)) := by
  have hl : a.length = n := by have := ha.len; simpa using this
  have hl2 : b.length = m := by have := hb.len; simpa using this
  have hcp := ha.cap; have hmx := ha.max; have hcp2 := hb.cap; have hmx2 := hb.max
  have hal : a.length ≤ maxLen := by simp only [maxLen]; omega
  have hbl : b.length ≤ maxLen := by simp only [maxLen]; omega
  have HN := Lib.hid h.isNone; have HR := Lib.hid h.isReal
  have HOF := Lib.hid (h.of3 (by omega) A n c a ha)
  have HIN := Lib.hid (ofT_in h.i (by omega) a hal)
  have HIN1 := Lib.hid (ofT_in HIN.out.1 (by have := HIN.out.2.2; omega) b hbl)
  have HIN2 := Lib.hid (mixT_in h.i (by omega) a b hal hbl)
  have HK := Lib.hid HBK
  have hid := pairT_id (ofT (ofT T a).1 b).1 4 ((ofT T a).2 : Int) ((ofT (ofT T a).1 b).2 : Int)
  have hid2 : (mixT T a b).2 < 9223372036854775808 := by have := HIN.out.2.2; have := HIN1.out.2.2; unfold mixT; omega
  clear h ha hb hid HBK
  go_enter Tryz.func24, Tryz.ntmps24
  go_wp2_with fail
  refine HN.out.mono ?_
  rintro e w1 ⟨rfl, h1⟩
  subst h1
  go_wp2_with fail
  refine HR.out.mono ?_
  rintro e w1 ⟨rfl, h1⟩
  subst h1
  go_wp2_with fail
  refine HOF.out.mono ?_
  rintro e w2 ⟨⟨rfl, s2, f2⟩, k2⟩
  have S2 := Lib.hid s2; have F2 := Lib.hid f2; have K2 := Lib.hid k2
  have c0 := s2.c0
  have HOF2 := Lib.hid ((s2.gr (Gr.drew w2)).of3 (by have := HIN.out.2.2; omega) B m d b ((HK.out w2 k2 s2.below).mono (Gr.drew w2)))
  clear s2 f2 k2
  go_upto_region 6 with fail
  refine wp_region_pre (by kernel_rfl) (fun w' => w'.cell? ⟨p, 0, none⟩ = some (.pointer (some ⟨g, 0, none⟩))) (fun i => i == 4) (fun _ => false) [0, 1, 2, 3, 5, 6, 7, 4] 4 (by kernel_rfl) (by kernel_rfl) (by kernel_rfl) c0 ?_
  refine wpPre_e rfl rfl ?_
  apply Exists.intro
  refine ⟨fun wq hq => ?_, ?_⟩
  · clear hq
    unfold plainAt
    go_simp
    first | exact rfl | exact ⟨rfl, rfl⟩
  go_simp
  refine wpPre_e rfl rfl ?_
  apply Exists.intro
  refine ⟨fun wq hq => ?_, ?_⟩
  · clear hq
    unfold plainAt
    go_simp
    first | exact rfl | exact ⟨rfl, rfl⟩
  go_simp
  refine wpPre_e rfl rfl ?_
  apply Exists.intro
  refine ⟨fun wq hq => ?_, ?_⟩
  · clear hq
    unfold plainAt
    go_simp
    first | exact rfl | exact ⟨rfl, rfl⟩
  go_simp
  refine wpPre_e rfl rfl ?_
  apply Exists.intro
  refine ⟨fun wq hq => ?_, ?_⟩
  · clear hq
    unfold plainAt
    go_simp
    first | exact rfl | exact ⟨rfl, rfl⟩
  go_simp
  refine wpPre_e rfl rfl ?_
  apply Exists.intro
  refine ⟨fun wq hq => ?_, ?_⟩
  · clear hq
    unfold plainAt
    go_simp
    first | exact rfl | exact ⟨rfl, rfl⟩
  go_simp
  refine wpPre_e rfl rfl ?_
  apply Exists.intro
  refine ⟨fun wq hq => ?_, ?_⟩
  · clear hq
    unfold plainAt
    go_simp
    first | exact rfl | exact ⟨rfl, rfl⟩
  go_simp
  refine wpPre_e rfl rfl ?_
  apply Exists.intro
  refine ⟨fun wq hq => ?_, ?_⟩
  · clear hq
    unfold plainAt
    go_simp
    first | exact rfl | exact ⟨rfl, rfl⟩
  go_simp
  refine wpPre_e rfl rfl ?_
  apply Exists.intro
  refine ⟨fun wq hq => ?_, ?_⟩
  · replace hq := hq rfl
    have z0 := hq
    unfold plainAt
    go_simp
    first | exact rfl | exact ⟨rfl, rfl⟩
  go_simp
  refine wpPre_nil ?_
  clear c0
  refine wpRest_one (i := 8) (by kernel_rfl) rfl rfl ?_
  intro K hK
  go_simp
  go_at_call 46
  refine HOF2.out.mono ?_
  rintro e w3 ⟨⟨rfl, s3, f3⟩, k3⟩
  have S3 := Lib.hid s3
  have F3 := Lib.hid (F2.out.trans ((FS.gr (Gr.drew _)).trans f3))
  have K3 := Lib.hid (K2.out.trans ((KZ.gr (Gr.drew _)).trans k3))
  refine hK _ _ (fun _ => s3.c0) ?_
  clear hK s3 f3 k3
  go_simp
  refine wpRest_one (i := 9) (by kernel_rfl) rfl rfl ?_
  intro K hK
  go_simp
  go_at_call 60
  obtain ⟨vl, vs, ht⟩ := S3.out.t
  have hok : TOk (ofT (ofT T a).1 b).1 := HIN1.out.1.ok (by have := HIN.out.2.2; have := HIN1.out.2.2; omega)
  refine (mix_any w0 g (ofT (ofT T a).1 b).1 vl vs bm ((ofT T a).2 : Int) ((ofT (ofT T a).1 b).2 : Int) w3 ht hok).mono ?_
  rintro e w4 ⟨vl', vs', rfl, t4, c4⟩
  have SF := Lib.hid (S3.out.turn ht t4 c4 HIN2.out.1)
  have K4 := Lib.hid (K3.out.trans (KZ.tbl ht c4))
  refine hK _ _ (fun _ => SF.out.1.c0) ?_
  clear hK t4 c4 ht
  go_simp
  refine wpRest_one (i := 10) (by kernel_rfl) rfl rfl ?_
  intro K hK
  go_simp
  go_at_call 34
  refine (handle_any (mixT T a b).2 w4 hid2).mono ?_
  rintro e w5 ⟨v5, rfl, o5⟩
  rw [handleL_len] at o5
  have O5 := Lib.hid (o5.base SF.out.1.below)
  have S5 := Lib.hid (SF.out.1.gr o5.below)
  have K5 := Lib.hid (K4.out.trans (KZ.gr o5.below))
  have F5 := Lib.hid (F3.out.trans (SF.out.2.trans (FS.gr o5.below)))
  refine hK _ _ (fun _ => S5.out.c0) ?_
  clear hK o5
  go_simp
  refine wpRest_one (i := 11) (by kernel_rfl) rfl rfl ?_
  intro K hK
  go_simp
  refine hK _ _ (fun _ => S5.out.c0) ?_
  clear hK
  go_simp
  refine wpRest_nil (by kernel_rfl) ?_
  go_wp2_with fail
  go_ret
  exact ⟨⟨v5, rfl, O5.out, S5.out, F5.out⟩, K5.out⟩
end
end Go.Proofs.YtcfbbgbjlgonpaaGreatDoor
