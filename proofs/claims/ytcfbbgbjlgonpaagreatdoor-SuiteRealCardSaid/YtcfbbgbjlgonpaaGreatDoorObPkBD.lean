/- Own texts of this claim, one behind the other. No condition. -/
import Derived.Test.YtcfbbgbjlgonpaaGreatDoorObPkAF
import Derived.Test.YtcfbbgbjlgonpaaGreatDoorObPkAM
import Derived.Test.YtcfbbgbjlgonpaaGreatDoorObPkAZ
import Derived.Test.YtcfbbgbjlgonpaaGreatDoorObPkBC

/- The suite of terms: Seal. No condition. -/
namespace Go.Proofs.YtcfbbgbjlgonpaaGreatDoor
open Go.RowKit
set_option linter.unusedVariables false
set_option linter.unusedSimpArgs false
theorem boxSize_any (n : Nat) (w : World) (h : n ≤ 1000000) : Calls Tryz.prog 49 #[.int .i64 (n : Int)] w fun e w' => e = .returned (.int .i64 ((n + 48 : Nat) : Int)) ∧ w' = w := by
  have t1 : max (n : Int) 0 = n := by omega
  go_enter Tryz.func49, Tryz.ntmps49
  go_wp2_with fail
  go_ret
  exact ⟨by first | rfl | (congr 2; push_cast; omega) | simp, rfl⟩
theorem doT_enc (T : List Nd) (a b : Int) : doT T 5 a b ByteArray.empty = pairT T 5 a b := by
  unfold doT
  rw [if_neg (by decide), if_neg (by decide), if_neg (by decide), if_neg (by decide)]
theorem sealT_in {T : List Nd} (h : TIn T) (hn : T.length ≤ 900) (key text : List UInt8) (hk : key.length ≤ maxLen) (ht : text.length ≤ maxLen) : TIn (sealT T key text).1 := by
  have h1 := ofT_in h (by omega) key hk
  have h2 := ofT_in h1.1 (by omega) text ht
  have h3 := doT_in h2.1 (by omega) 5 ((ofT T key).2 : Int) ((ofT (ofT T key).1 text).2 : Int) ByteArray.empty (by decide)
  rw [doT_enc] at h3
  exact h3.1
def RetSeal (w0 w : World) (p g bm bs : Nat) (T : List Nd) (key text : List UInt8) (e : Ending) (w' : World) : Prop :=
  (∃ v, e = .returned v ∧ Own w0 w' 5 1 v (text.length + 48) ((sealB T key text).map u8c)) ∧ SymS w0 w' p g bm bs (sealT T key text).1 ∧ FS w w' ∧ KM bs bm w w'
section
variable {w0 w : World} {p g bm bs : Nat} {T : List Nd}
set_option maxRecDepth 100000 in
set_option maxHeartbeats 2000000 in
theorem SymS.seal (h : SymS w0 w p g bm bs T) (hn : T.length ≤ 900) (A B : Option Addr) (n c m d : Nat) (key text : List UInt8) (ha : Bs w A n c key) (hb : Bs w B m d text) (hn32 : n = 32) (hm : m ≤ 200) (HBK : ∀ w', FS w w' → Below w0.heap.size w0 w' → Bs w' B m d text) :
    Calls Tryz.prog 18 #[.pointer (some ⟨p, 0, none⟩), .slice A n c, .slice B m d] w (RetSeal w0 w p g bm bs T key text) := by
  subst hn32
  have hl : key.length = 32 := by have := ha.len; simpa using this
  have hl2 : text.length = m := by have := hb.len; simpa using this
  have hcp := ha.cap; have hmx := ha.max; have hcp2 := hb.cap; have hmx2 := hb.max
  have hal : key.length ≤ maxLen := by simp only [maxLen]; omega
  have hbl : text.length ≤ maxLen := by simp only [maxLen]; omega
  have HN := Lib.hid h.isNone; have HR := Lib.hid h.isReal
  have HOF := Lib.hid (h.of2 (by omega) A 32 c key ha)
  have HIN := Lib.hid (ofT_in h.i (by omega) key hal)
  have HIN1 := Lib.hid (ofT_in HIN.out.1 (by have := HIN.out.2.2; omega) text hbl)
  have HIN2 := Lib.hid (sealT_in h.i hn key text hal hbl)
  have HK := Lib.hid HBK
  have hid := pairT_id (ofT (ofT T key).1 text).1 5 ((ofT T key).2 : Int) ((ofT (ofT T key).1 text).2 : Int)
  have hid2 : (sealT T key text).2 < 9223372036854775808 := by have := HIN.out.2.2; have := HIN1.out.2.2; unfold sealT; omega
  have HSZ := Lib.hid (fun wr => boxSize_any m wr (by omega))
  have t60 : decide ((60000 : Int) < (m : Int)) = false := decide_eq_false (by omega)
  have HPB : Hid (padS (handleL (sealT T key text).2) ((m + 48 : Nat) : Int) = sealB T key text) := by
    show _ = _
    unfold padS sealB
    rw [if_pos ⟨by omega, by omega⟩, hl2]
    rfl
  have HLB : Hid ((sealB T key text).length = m + 48) := by show _ = _; rw [← hl2]; exact padL_length _ _
  clear h ha hb hid HBK
  go_enter Tryz.func18, Tryz.ntmps18
  go_wp2_with fail
  refine HN.out.mono ?_
  rintro e w1 ⟨rfl, h1⟩
  subst h1
  go_wp2_with fail
  refine HR.out.mono ?_
  rintro e w1 ⟨rfl, h1⟩
  subst h1
  go_wp2_with fail
  refine HOF.out.mono ?_
  rintro e w2 ⟨⟨rfl, s2, f2⟩, k2⟩
  have S2 := Lib.hid s2; have F2 := Lib.hid f2; have K2 := Lib.hid k2
  have HOF2 := Lib.hid ((s2.gr (Gr.drew _)).of2 (by have := HIN.out.2.2; omega) B m d text ((HK.out w2 f2 s2.below).mono (Gr.drew _)))
  have c0 := s2.c0
  clear s2 f2 k2
  go_upto_region 7 with fail
  refine wp_region_pre (by kernel_rfl) (fun w' => w'.cell? ⟨p, 0, none⟩ = some (.pointer (some ⟨g, 0, none⟩))) (fun i => i == 4) (fun _ => false) [0, 1, 2, 3, 5, 6, 7, 11, 12, 4] 6 (by kernel_rfl) (by kernel_rfl) (by kernel_rfl) c0 ?_
  refine wpPre_e rfl rfl ?_
  apply Exists.intro
  refine ⟨fun wq hq => ?_, ?_⟩
  · clear hq
    unfold plainAt
    go_simp
    first | exact rfl | exact ⟨rfl, rfl⟩
  go_simp
  refine wpPre_e rfl rfl ?_
  apply Exists.intro
  refine ⟨fun wq hq => ?_, ?_⟩
  · clear hq
    unfold plainAt
    go_simp
    first | exact rfl | exact ⟨rfl, rfl⟩
  go_simp
  refine wpPre_e rfl rfl ?_
  apply Exists.intro
  refine ⟨fun wq hq => ?_, ?_⟩
  · clear hq
    unfold plainAt
    go_simp
    first | exact rfl | exact ⟨rfl, rfl⟩
  go_simp
  refine wpPre_e rfl rfl ?_
  apply Exists.intro
  refine ⟨fun wq hq => ?_, ?_⟩
  · clear hq
    unfold plainAt
    go_simp
    first | exact rfl | exact ⟨rfl, rfl⟩
  go_simp
  refine wpPre_e rfl rfl ?_
  apply Exists.intro
  refine ⟨fun wq hq => ?_, ?_⟩
  · clear hq
    unfold plainAt
    go_simp
    first | exact rfl | exact ⟨rfl, rfl⟩
  go_simp
  refine wpPre_e rfl rfl ?_
  apply Exists.intro
  refine ⟨fun wq hq => ?_, ?_⟩
  · clear hq
    unfold plainAt
    go_simp
    first | exact rfl | exact ⟨rfl, rfl⟩
  go_simp
  refine wpPre_e rfl rfl ?_
  apply Exists.intro
  refine ⟨fun wq hq => ?_, ?_⟩
  · clear hq
    unfold plainAt
    go_simp
    first | exact rfl | exact ⟨rfl, rfl⟩
  go_simp
  refine wpPre_e rfl rfl ?_
  apply Exists.intro
  refine ⟨fun wq hq => ?_, ?_⟩
  · clear hq
    unfold plainAt
    go_simp
    first | exact rfl | exact ⟨rfl, rfl⟩
  go_simp
  refine wpPre_e rfl rfl ?_
  apply Exists.intro
  refine ⟨fun wq hq => ?_, ?_⟩
  · clear hq
    unfold plainAt
    go_simp
    first | exact rfl | exact ⟨rfl, rfl⟩
  go_simp
  refine wpPre_e rfl rfl ?_
  apply Exists.intro
  refine ⟨fun wq hq => ?_, ?_⟩
  · replace hq := hq rfl
    have z0 := hq
    unfold plainAt
    go_simp
    first | exact rfl | exact ⟨rfl, rfl⟩
  go_simp
  refine wpPre_nil ?_
  clear c0
  refine wpRest_one (i := 8) (by kernel_rfl) rfl rfl ?_
  intro K hK
  go_simp
  go_at_call 46
  refine HOF2.out.mono ?_
  rintro e w3 ⟨⟨rfl, s3, f3⟩, k3⟩
  have S3 := Lib.hid s3
  have F3 := Lib.hid (F2.out.trans ((FS.gr (Gr.drew _)).trans f3))
  have K3 := Lib.hid (K2.out.trans ((KM.gr (Gr.drew _)).trans k3))
  refine hK _ _ (fun _ => s3.c0) ?_
  clear hK s3 f3 k3
  go_simp
  refine wpRest_one (i := 9) (by kernel_rfl) rfl rfl ?_
  intro K hK
  go_simp
  go_at_call 48
  obtain ⟨vl, vs, ht⟩ := S3.out.t
  have hok : TOk (ofT (ofT T key).1 text).1 := HIN1.out.1.ok (by have := HIN.out.2.2; have := HIN1.out.2.2; omega)
  refine (enc_any w0 g (ofT (ofT T key).1 text).1 vl vs bm ((ofT T key).2 : Int) ((ofT (ofT T key).1 text).2 : Int) w3 ht hok).mono ?_
  rintro e w4 ⟨vl', vs', rfl, t4, c4⟩
  have SF := Lib.hid (S3.out.turn ht t4 c4 HIN2.out)
  have K4 := Lib.hid (K3.out.trans (KM.tbl (bs := bs) ht c4))
  refine hK _ _ (fun _ => SF.out.1.c0) ?_
  clear hK t4 c4 ht
  go_simp
  refine wpRest_one (i := 10) (by kernel_rfl) rfl rfl ?_
  intro K hK
  go_simp
  go_at_call 34
  refine (handle_any (sealT T key text).2 w4 hid2).mono ?_
  rintro e w5 ⟨v5, rfl, o5⟩
  rw [handleL_len] at o5
  obtain ⟨A5, c5, rfl, s5⟩ := o5.slice
  have B5 : Hid (Bs w5 A5 32 c5 (handleL (sealT T key text).2)) := s5
  have S5 := Lib.hid (SF.out.1.gr o5.below)
  have F5 := Lib.hid (F3.out.trans (SF.out.2.trans (FS.gr o5.below)))
  have K5 := Lib.hid (K4.out.trans (KM.gr o5.below))
  refine hK _ _ (fun _ => S5.out.c0) ?_
  clear hK o5 s5
  go_simp
  refine wpRest_one (i := 13) (by kernel_rfl) rfl rfl ?_
  intro K hK
  go_simp
  go_at_call 49
  refine (HSZ.out _).mono ?_
  rintro e w6 ⟨rfl, rfl⟩
  refine hK _ _ (fun _ => S5.out.c0) ?_
  clear hK
  go_simp
  refine wpRest_one (i := 14) (by kernel_rfl) rfl rfl ?_
  intro K hK
  go_simp
  go_at_call 47
  refine (pad_any A5 32 c5 (handleL (sealT T key text).2) ((m + 48 : Nat) : Int) w6 B5.out).mono ?_
  rintro e w7 ⟨v7, rfl, o7⟩
  rw [HPB.out, HLB.out] at o7
  have O7 := Lib.hid (o7.base S5.out.below)
  have S7 := Lib.hid (S5.out.gr o7.below)
  have F7 := Lib.hid (F5.out.trans (FS.gr o7.below))
  have K7 := Lib.hid (K5.out.trans (KM.gr o7.below))
  refine hK _ _ (fun _ => S7.out.c0) ?_
  clear hK o7
  go_simp
  refine wpRest_one (i := 15) (by kernel_rfl) rfl rfl ?_
  intro K hK
  go_simp
  refine hK _ _ (fun _ => S7.out.c0) ?_
  clear hK
  go_simp
  refine wpRest_nil (by kernel_rfl) ?_
  go_wp2_with fail
  go_ret
  exact ⟨⟨v7, rfl, by rw [hl2]; exact O7.out⟩, S7.out, F7.out, K7.out⟩
end
end Go.Proofs.YtcfbbgbjlgonpaaGreatDoor

/- Boxes: Open. No condition. -/
namespace Go.Proofs.YtcfbbgbjlgonpaaGreatDoor
open Go.RowKit
set_option linter.unusedVariables false
set_option linter.unusedSimpArgs false
theorem run_cut (b off L cap e : Nat) (h : e ≤ cap) (w : World) : (Instr.slice 28 (.slice (some ⟨b, off, none⟩) L cap) none (some (.int .i64 (e : Int))) (some (.int .i64 (e : Int)))).run Tryz.prog w = .ok (.slice (some ⟨b, off, none⟩) e e) w := by
  obtain ⟨i, hi, hz, hsz, hby⟩ := info_parts tBytes.info
  have he : Tryz.prog.elem 28 = 5 := by simp [Program.elem, tBytes.und]
  have hu : Tryz.prog.underlying 28 = some (.slice (Tryz.prog.elem 28)) := by rw [he]; exact tBytes.und
  rw [run_slice_hm w 28 (some ⟨b, off, none⟩) L cap hu .i64 .i64 (e : Int) (e : Int) (by omega) (by omega) (by omega)]
  simp [sizeOf, typeInfo, he, hi, Result.andThen, sliced, hsz, add_flat]
/-- What opening tells. -/
def openL (key b : List UInt8) : List UInt8 := overL (deriveL key sealS) (b.take 16) ((b.take (b.length - 32)).drop 16)
def sealedL (key b : List UInt8) : Bool := macL (deriveL key tagS) (b.take (b.length - 32)) == b.drop (b.length - 32)
def RetOpenB (w : World) (key b : List UInt8) (e : Ending) (w' : World) : Prop :=
  Gr w w' ∧ if sealedL key b = true then (∃ v, e = .returned (.tuple #[v, .int .i64 0]) ∧ Own w w' 5 1 v (b.length - 48) ((openL key b).map u8c)) else e = .returned (.tuple #[.slice none 0 0, .int .i64 11])
set_option maxRecDepth 100000 in
set_option maxHeartbeats 2000000 in
theorem boxOpen_some (A B : Option Addr) (c d m : Nat) (key b : List UInt8) (w : World) (hk : Bs w A 32 c key) (hb : Bs w B m d b) (h48 : 48 ≤ m) (hm : m ≤ 30000) (hK : ShaK w) :
    Calls Tryz.prog 50 #[.slice A 32 c, .slice B m d] w (RetOpenB w key b) := by
  have hbl : b.length = m := hb.len
  have hcap : m ≤ d := Sl.cap hb
  have hmax := Sl.max hb
  obtain ⟨g, o, rfl, hcell⟩ := Sl.addr hb (by omega)
  obtain ⟨n, hn⟩ : ∃ n, n = m - 32 := ⟨_, rfl⟩
  have H1 : Hid (∀ w', Gr w w' → Bs w' (some ⟨g, o, none⟩) n n (b.take n)) := fun w' k => by
    have := (Sl.mono hb k).upto (k := n) (by omega)
    rw [← List.map_take] at this
    exact ⟨this.1, Nat.le_refl _, by simp only [maxLen]; omega, this.2.2.2⟩
  have H2 : Hid (∀ w', Gr w w' → Bs w' (some ⟨g, o + n, none⟩) 32 (d - n) (b.drop n)) := fun w' k => by
    have := (Sl.mono hb k).from (A' := some ⟨g, o + n, none⟩) (k := n) (by omega) (fun _ b' o' e => by injection e with e; injection e with e1 e2; subst e1 e2; rfl)
    rw [← List.map_drop, show m - n = 32 by omega] at this
    exact this
  have H3 : Hid (∀ w', Gr w w' → Bs w' (some ⟨g, o, none⟩) 16 n (b.take 16)) := fun w' k => by
    have := (Sl.mono hb k).upto (k := 16) (by omega)
    rw [← List.map_take] at this
    exact ⟨this.1, by omega, by simp only [maxLen]; omega, this.2.2.2⟩
  obtain ⟨A', hA', hx40⟩ := run_from tBytes (some ⟨g, o, none⟩) n n 16 (by omega) (Nat.le_refl _)
  have hx4 : ∀ w', (Instr.slice 28 (.slice (some ⟨g, o, none⟩) n n) (some (.int .i64 16)) none none).run Tryz.prog w' = .ok (.slice A' (n - 16) (n - 16)) w' := fun w' => hx40 w'
  clear hx40
  have H4 : Hid (∀ w', Gr w w' → Bs w' A' (n - 16) (n - 16) ((b.take n).drop 16)) := fun w' k => by
    have := (H1 w' k).from (A' := A') (k := 16) (by omega) (fun h b' o' e => by simpa using hA' h b' o' e)
    rw [← List.map_drop] at this
    exact this
  have hx1 := run_cut g o m d n (by omega)
  have hx2 := run_from1 g o m d n (by omega) hcap
  rw [show m - n = 32 by omega] at hx2
  have hx3 : ∀ w', (Instr.slice 28 (.slice (some ⟨g, o, none⟩) n n) none (some (.int .i64 16)) none).run Tryz.prog w' = .ok (.slice (some ⟨g, o, none⟩) 16 n) w' := fun w' => run_upto tBytes (some ⟨g, o, none⟩) n n 16 (by omega) w'
  have wr1 : IntKind.i64.wrap ((m : Int) - 32) = (n : Int) := by rw [IntWalk.i64_in _ (by omega)]; omega
  have t1 : decide ((m : Int) < 48) = false := decide_eq_false (by omega)
  have t2 : decide ((60048 : Int) < (m : Int)) = false := decide_eq_false (by omega)
  have HS0 : Hid (∀ wr, Calls Tryz.prog 49 #[.int .i64 0] wr fun e w' => e = .returned (.int .i64 48) ∧ w' = wr) := fun wr => by
    have k := boxSize_any 0 wr (by omega)
    rw [show ((0 + 48 : Nat) : Int) = 48 by omega, show ((0 : Nat) : Int) = 0 by omega] at k
    exact k
  have HS6 : Hid (∀ wr, Calls Tryz.prog 49 #[.int .i64 60000] wr fun e w' => e = .returned (.int .i64 60048) ∧ w' = wr) := fun wr => by
    have k := boxSize_any 60000 wr (by omega)
    rw [show ((60000 + 48 : Nat) : Int) = 60048 by omega, show ((60000 : Nat) : Int) = 60000 by omega] at k
    exact k
  have HKE := Lib.hid (fun w' (k : Gr w w') => boxKeys_any A 32 c key w' (hk.mono k) (by decide) (hK.mono k))
  have HK := Lib.hid hK
  have HBL := Lib.hid hbl; have HNM := Lib.hid hn
  have HCAP := Lib.hid hcap; have HMAX := Lib.hid hmax; have H48 := Lib.hid h48; have HM := Lib.hid hm
  clear hk hb hcell hK hbl hn
  go_enter Tryz.func50, Tryz.ntmps50
  go_wp2_with fail
  refine (HS0.out _).mono ?_
  rintro e w1 ⟨rfl, h1⟩
  rw [h1]
  clear h1 w1
  go_wp2_with fail
  refine (HS6.out _).mono ?_
  rintro e w1 ⟨rfl, h1⟩
  rw [h1]
  clear h1 w1
  go_wp2_with fail
  refine wp_region_grow (by kernel_rfl) [0, 0, 0, 7, 0, 0, 48, 15, 255] [.p 0, .p 1, .p 2, .p 3, .p 4, .p 5, .p 6, .p 7, .p 8] (by kernel_rfl) (trivial) ?_
  refine wpG_pe rfl rfl ?_
  apply Exists.intro
  refine ⟨fun wq => ?_, ?_⟩
  · unfold plainAt
    go_simp
    first | exact rfl | exact ⟨rfl, rfl⟩
  go_simp
  refine wpG_pe rfl rfl ?_
  apply Exists.intro
  refine ⟨fun wq => ?_, ?_⟩
  · unfold plainAt
    go_simp
    first | exact rfl | exact ⟨rfl, rfl⟩
  go_simp
  refine wpG_pe rfl rfl ?_
  apply Exists.intro
  refine ⟨fun wq => ?_, ?_⟩
  · unfold plainAt
    go_simp
    first | exact rfl | exact ⟨rfl, rfl⟩
  go_simp
  refine wpG_pe rfl rfl ?_
  apply Exists.intro
  refine ⟨fun wq => ?_, ?_⟩
  · unfold plainAt
    go_simp
    first | exact rfl | exact ⟨rfl, rfl⟩
  go_simp
  refine wpG_pe rfl rfl ?_
  apply Exists.intro
  refine ⟨fun wq => ?_, ?_⟩
  · unfold plainAt
    go_simp
    first | exact rfl | exact ⟨rfl, rfl⟩
  go_simp
  refine wpG_pe rfl rfl ?_
  apply Exists.intro
  refine ⟨fun wq => ?_, ?_⟩
  · unfold plainAt
    go_simp
    first | exact rfl | exact ⟨rfl, rfl⟩
  go_simp
  refine wpG_pe rfl rfl ?_
  apply Exists.intro
  refine ⟨fun wq => ?_, ?_⟩
  · unfold plainAt
    go_simp
    first | exact rfl | exact ⟨rfl, rfl⟩
  go_simp
  refine wpG_pe rfl rfl ?_
  apply Exists.intro
  refine ⟨fun wq => ?_, ?_⟩
  · unfold plainAt
    go_simp
    first | exact rfl | exact ⟨rfl, rfl⟩
  go_simp
  refine wpG_pe rfl rfl ?_
  apply Exists.intro
  refine ⟨fun wq => ?_, ?_⟩
  · unfold plainAt
    go_simp
    first | exact rfl | exact ⟨rfl, rfl⟩
  go_simp
  refine wpG_nil ?_
  intro w4 g4
  have G4 := Lib.hid ((Gr.drew w).trans g4)
  clear g4 hx1 hx2
  go_wp2_with fail
  refine (HKE.out w4 G4.out).mono ?_
  rintro e w5 ⟨A1, c1, A2, c2, rfl, s1, s2, g5⟩
  have S1 := Lib.hid s1; have S2 := Lib.hid s2; have G5 := Lib.hid (G4.out.trans g5)
  clear s1 s2 g5
  have HCK := Lib.hid (macCheck_any A2 (some ⟨g, o, none⟩) (some ⟨g, o + n, none⟩) 32 c2 n n 32 (d - n) (deriveL key tagS) (b.take n) (b.drop n) w5 S2.out (by decide) (H1.out w5 G5.out) (by have := HNM.out; omega) (H2.out w5 G5.out) (HK.out.mono G5.out))
  go_wp2_with fail
  refine HCK.out.mono ?_
  rintro e w6 ⟨rfl, g6⟩
  have G6 := Lib.hid (G5.out.trans g6)
  have S1' := Lib.hid (S1.out.mono g6)
  have HBN : Hid (b.length - 32 = n) := by show _ = _; rw [HBL.out]; exact HNM.out.symm
  clear g6 HCK HKE
  cases hq : (macL (deriveL key tagS) (b.take n) == b.drop n)
  · have HSE : Hid (sealedL key b = false) := by show _ = _; unfold sealedL; rw [HBN.out]; exact hq
    clear hq
    go_wp2_with fail
    go_ret2
    refine ⟨G6.out, ?_⟩
    rw [HSE.out]
    rfl
  · have HSE : Hid (sealedL key b = true) := by show _ = _; unfold sealedL; rw [HBN.out]; exact hq
    clear hq
    have HOV := Lib.hid (fun w' (k : Gr w6 w') => ctrOver_any A1 (some ⟨g, o, none⟩) A' c1 n (n - 16) (n - 16) (deriveL key sealS) (b.take 16) ((b.take n).drop 16) w' (S1'.out.mono k) (H3.out w' (G6.out.trans k)) (H4.out w' (G6.out.trans k)) (by have := HNM.out; have := HM.out; omega))
    have HTL : Hid (((b.take n).drop 16).length = b.length - 48) := by show _ = _; rw [List.length_drop, List.length_take, HBL.out, HNM.out]; omega
    go_wp2_with fail
    refine wp_region_grow (by kernel_rfl) [0, 0, 2, 0, 8, 31, 63, 63, 255, 511] [.p 0, .p 1, .p 2, .p 3, .p 4, .c 5, .p 6, .p 7, .p 8, .p 9] (by kernel_rfl) (trivial) ?_
    refine wpG_pe rfl rfl ?_
    apply Exists.intro
    refine ⟨fun wq => ?_, ?_⟩
    · unfold plainAt
      go_simp
      first | exact rfl | exact ⟨rfl, rfl⟩
    go_simp
    refine wpG_pe rfl rfl ?_
    apply Exists.intro
    refine ⟨fun wq => ?_, ?_⟩
    · unfold plainAt
      go_simp
      first | exact rfl | exact ⟨rfl, rfl⟩
    go_simp
    refine wpG_pe rfl rfl ?_
    apply Exists.intro
    refine ⟨fun wq => ?_, ?_⟩
    · unfold plainAt
      go_simp
      first | exact rfl | exact ⟨rfl, rfl⟩
    go_simp
    refine wpG_pe rfl rfl ?_
    apply Exists.intro
    refine ⟨fun wq => ?_, ?_⟩
    · unfold plainAt
      go_simp
      first | exact rfl | exact ⟨rfl, rfl⟩
    go_simp
    refine wpG_pe rfl rfl ?_
    apply Exists.intro
    refine ⟨fun wq => ?_, ?_⟩
    · unfold plainAt
      go_simp
      first | exact rfl | exact ⟨rfl, rfl⟩
    go_simp
    refine wpG_c rfl rfl ?_
    intro w9 g9 K hK
    go_simp
    go_at_call 79
    refine (HOV.out w9 ((Gr.drew _).trans g9)).mono ?_
    rintro e wn ⟨v9, rfl, o9⟩
    refine hK _ _ o9.below ?_; have O9 := Lib.hid (o9.base (G6.out.trans ((Gr.drew _).trans g9))); clear g9 o9 hK
    go_simp
    refine wpG_pe rfl rfl ?_
    apply Exists.intro
    refine ⟨fun wq => ?_, ?_⟩
    · unfold plainAt
      go_simp
      first | exact rfl | exact ⟨rfl, rfl⟩
    go_simp
    refine wpG_pe rfl rfl ?_
    apply Exists.intro
    refine ⟨fun wq => ?_, ?_⟩
    · unfold plainAt
      go_simp
      first | exact rfl | exact ⟨rfl, rfl⟩
    go_simp
    refine wpG_pe rfl rfl ?_
    apply Exists.intro
    refine ⟨fun wq => ?_, ?_⟩
    · unfold plainAt
      go_simp
      first | exact rfl | exact ⟨rfl, rfl⟩
    go_simp
    refine wpG_pe rfl rfl ?_
    apply Exists.intro
    refine ⟨fun wq => ?_, ?_⟩
    · unfold plainAt
      go_simp
      first | exact rfl | exact ⟨rfl, rfl⟩
    go_simp
    refine wpG_nil ?_
    intro w10 g10
    have O10 := Lib.hid (O9.out.mono g10)
    clear g10 O9
    go_wp2_with fail
    go_ret2
    refine ⟨O10.out.below, ?_⟩
    rw [HSE.out, if_pos rfl]
    refine ⟨v9, rfl, ?_⟩
    have h := O10.out
    rw [HTL.out] at h
    unfold openL
    rw [HBN.out]
    exact h
end Go.Proofs.YtcfbbgbjlgonpaaGreatDoor

/- Boxes: what is sealed is opened. No condition. -/
namespace Go.Proofs.YtcfbbgbjlgonpaaGreatDoor
theorem overL_back (key nonce text : List UInt8) : overL key nonce (overL key nonce text) = text := by
  have h : (overL key nonce text).length = text.length := overL_len _ _ _
  show xorL (overL key nonce text) (streamL key nonce (overL key nonce text).length) = text
  rw [h]
  exact xorL_twice _ _ (by rw [streamL_len]; exact Nat.le_refl _)
theorem boxL_hidden {key nonce text : List UInt8} (h : nonce.length = 16) : (boxL key nonce text).take ((boxL key nonce text).length - 32) = hiddenL key nonce text ∧ (boxL key nonce text).drop ((boxL key nonce text).length - 32) = macL (deriveL key tagS) (hiddenL key nonce text) := by
  have e : (boxL key nonce text).length - 32 = (hiddenL key nonce text).length := by rw [boxL_len h, hiddenL_len, h]; omega
  rw [e]
  unfold boxL
  exact ⟨List.take_left, List.drop_left⟩
theorem boxL_sealed {key nonce text : List UInt8} (h : nonce.length = 16) : sealedL key (boxL key nonce text) = true := by
  unfold sealedL
  rw [(boxL_hidden h).1, (boxL_hidden h).2]
  exact beq_self_eq_true _
theorem boxL_open {key nonce text : List UInt8} (h : nonce.length = 16) : openL key (boxL key nonce text) = text := by
  unfold openL
  rw [(boxL_hidden h).1]
  have e1 : (boxL key nonce text).take 16 = nonce := by
    unfold boxL hiddenL
    rw [List.append_assoc, ← h]
    exact List.take_left
  have e2 : (hiddenL key nonce text).drop 16 = overL (deriveL key sealS) nonce text := by
    unfold hiddenL
    rw [← h]
    exact List.drop_left
  rw [e1, e2, overL_back]
end Go.Proofs.YtcfbbgbjlgonpaaGreatDoor

/- Real suites: made, Seal. No condition. -/
namespace Go.Proofs.YtcfbbgbjlgonpaaGreatDoor
open Go.RowKit
set_option linter.unusedVariables false
set_option linter.unusedSimpArgs false
/-- A real suite at block g, its source at p, d draws so far. -/
structure RealW (w : World) (g p : Nat) (A : Option Addr) (n c : Nat) (seed : List UInt8) (d : Nat) : Prop where
  s : w.cell? ⟨g, 2, none⟩ = some (.pointer (some ⟨p, 0, none⟩))
  src : Src w p A n c seed d
  ne : g ≠ p
  np : p ≠ 1
  t0 : w.cell? ⟨g, 0, none⟩ = some (.pointer none)
theorem RealW.real {w : World} {g p : Nat} {A : Option Addr} {n c : Nat} {seed : List UInt8} {d : Nat} (h : RealW w g p A n c seed d) : RealS w g := ⟨_, h.s⟩
theorem RealW.mono {w w' : World} {g p : Nat} {A : Option Addr} {n c : Nat} {seed : List UInt8} {d : Nat} (h : RealW w g p A n c seed d) (hb : Gr w w') : RealW w' g p A n c seed d :=
  ⟨(hb.cell (World.block_lt_of_cell? w _ h.s)).trans h.s, h.src.mono hb, h.ne, h.np, (hb.cell (World.block_lt_of_cell? w _ h.t0)).trans h.t0⟩
theorem RealW.drew {w : World} {g p : Nat} {A : Option Addr} {n c : Nat} {seed : List UInt8} {d : Nat} (h : RealW w g p A n c seed d) : RealW (w.setCell ⟨p, 1, none⟩ (.int .i64 ((d : Int) + 1))) g p A n c seed (d + 1) :=
  ⟨(World.cell?_of_block (Below.heap_setCell w ⟨p, 1, none⟩ _ g h.ne)).trans h.s, h.src.draw, h.ne, h.np, (World.cell?_of_block (Below.heap_setCell w ⟨p, 1, none⟩ _ g h.ne)).trans h.t0⟩
theorem realNew_any (A : Option Addr) (n c : Nat) (seed : List UInt8) (w : World) (h : Bs w A n c seed) (hn : n ≤ 1000) (hz : 1 < w.heap.size) :
    Calls Tryz.prog 17 #[.slice A n c] w fun e w' => ∃ g p A' c', e = .returned (.pointer (some ⟨g, 0, none⟩)) ∧ RealW w' g p A' seed.length c' seed 0 ∧ Gr w w' ∧ w.heap.size ≤ g ∧ w.heap.size ≤ p := by
  have HH := Lib.hid h; clear h
  go_enter Tryz.func17, Tryz.ntmps17
  go_wp2_with fail
  refine (new_any A n c seed w HH.out hn hz).mono ?_
  rintro e w1 ⟨p, A1, c1, rfl, s1, b1, g1, n1, q1⟩
  have B1 := Lib.hid b1; have S1 := Lib.hid s1; have G1 := Lib.hid g1; have N1 := Lib.hid n1
  have PL : Hid (p < w1.heap.size) := s1.1.lt
  clear s1 b1 g1 n1 q1
  go_wp2_with fail
  go_ret
  refine ⟨w1.heap.size, p, A1, c1, rfl, ⟨?_, S1.out.mono ((Below.refl _ _).alloc (Nat.le_refl _) _), ?_, N1.out, ?_⟩, B1.out.alloc B1.out.size _, B1.out.size, G1.out⟩
  · rw [(Blk.new w1 _ _).cell]
    rfl
  · exact fun e => by have := PL.out; omega
  · rw [(Blk.new w1 _ _).cell]
    rfl
end Go.Proofs.YtcfbbgbjlgonpaaGreatDoor

/- Real suites: Seal. No condition. -/
namespace Go.Proofs.YtcfbbgbjlgonpaaGreatDoor
open Go.RowKit
set_option linter.unusedVariables false
set_option linter.unusedSimpArgs false
theorem ShaK.at {w W : World} (hK : ShaK w) (e : W.heap[1]? = w.heap[1]?) : ShaK W := by
  unfold ShaK Lib.TabIs World.var? at *
  rw [show Tryz.prog.globalNamed "oubliette/sha.k" = some 1 by kernel_rfl] at hK ⊢
  simp only [Option.bind_some] at hK ⊢
  rw [e]; exact hK
theorem Bs.setSrc {w : World} {A B : Option Addr} {n c m d k p : Nat} {l seed : List UInt8} (h : Bs w A n c l) (hs : Src w p B m d seed k) (v : Value) : Bs (w.setCell ⟨p, 1, none⟩ v) A n c l := by
  refine Sl.tch (S := fun b => b = p) h (by decide) (Tch.set ⟨p, 1, none⟩ v rfl) (fun hn b o e => ?_)
  refine Sl.not_blk h (by decide) hs.1 (fun u hu x hx => ?_) hn e
  rw [List.getElem?_map] at hx
  obtain ⟨y, _, rfl⟩ := Option.map_eq_some_iff.1 hx
  rcases List.mem_cons.1 hu with rfl | hu
  · intro e; cases e
  · rcases List.mem_cons.1 hu with rfl | hu
    · intro e; cases e
    · cases hu
def RetSealR (w : World) (p : Nat) (seed : List UInt8) (d : Nat) (key text : List UInt8) (e : Ending) (w' : World) : Prop :=
  ∃ v, e = .returned v ∧ Own (w.setCell ⟨p, 1, none⟩ (.int .i64 ((d : Int) + 1))) w' 5 1 v (text.length + 48) ((boxL key (nonceL seed d) text).map u8c)
set_option maxRecDepth 100000 in
set_option maxHeartbeats 1000000 in
theorem RealW.seal {w : World} {g p : Nat} {A B C : Option Addr} {n c d cb m cm : Nat} {seed : List UInt8} (h : RealW w g p A n c seed d) (hn : n ≤ 50000) (hd : d < 100) (key text : List UInt8) (hk : Bs w B 32 cb key) (ht : Bs w C m cm text) (hm : m ≤ 30000) (hK : ShaK w) :
    Calls Tryz.prog 18 #[.pointer (some ⟨g, 0, none⟩), .slice B 32 cb, .slice C m cm] w (RetSealR w p seed d key text) := by
  have HN := Lib.hid (none_any g w h.real)
  have HR := Lib.hid (real_any g w h.real)
  have HBY := Lib.hid (bytes16_any p A n c seed d w h.src hn hd hK h.np)
  have c2 := h.s
  obtain ⟨W, hW⟩ : ∃ W, W = w.setCell ⟨p, 1, none⟩ (.int .i64 ((d : Int) + 1)) := ⟨_, rfl⟩
  have HKW : Hid (Bs W B 32 cb key) := by rw [hW]; exact hk.setSrc h.src _
  have HTW : Hid (Bs W C m cm text) := by rw [hW]; exact ht.setSrc h.src _
  have HKK : Hid (ShaK W) := by rw [hW]; exact hK.at (Below.heap_setCell w ⟨p, 1, none⟩ _ 1 (fun e => h.np e.symm))
  have HLN := Lib.hid (boxL_len (key := key) (text := text) (nonceL_len seed d))
  have t1 : decide ((60000 : Int) < m) = false := decide_eq_false (by omega)
  unfold RetSealR
  unfold RetNonce at HBY
  rw [← hW] at HBY ⊢
  clear h hk ht hK hW
  go_enter Tryz.func18, Tryz.ntmps18
  go_wp2_with fail
  first | go_step3 | skip
  go_wp2_with fail
  refine HN.out.mono ?_
  rintro e w1 ⟨rfl, h1⟩
  rw [← h1]
  clear h1 w1
  go_wp2_with fail
  refine HR.out.mono ?_
  rintro e w1 ⟨rfl, h1⟩
  rw [← h1]
  clear h1 w1
  go_wp2_with fail
  refine HBY.out.mono ?_
  rintro e w2 ⟨A2, rfl, s2, g2⟩
  have G2 : Hid (Gr W w2) := g2
  have HSL := Lib.hid (boxSeal_any B A2 C cb 16 cm m key (nonceL seed d) text w2 (HKW.out.mono g2) s2 (HTW.out.mono g2) hm (HKK.out.mono g2))
  clear s2 g2
  go_wp2_with fail
  refine HSL.out.mono ?_
  rintro e w3 ⟨v3, rfl, o3⟩
  rw [HLN.out] at o3
  have O3 := Lib.hid (o3.base G2.out)
  clear o3
  go_wp2_with fail
  try rw [Exit.noGoto_ret]
  go_ret
  exact ⟨v3, rfl, O3.out⟩
end Go.Proofs.YtcfbbgbjlgonpaaGreatDoor

/- CRC: a step. No condition. -/
namespace Go.Proofs.YtcfbbgbjlgonpaaGreatDoor
open Go.RowKit
set_option linter.unusedVariables false
set_option linter.unusedSimpArgs false
def stepW (c : UInt32) : UInt32 := shrW c 1 ^^^ (3988292384 &&& (0 - (c &&& 1)))
theorem shr1 (x : UInt32) : un x / 2 = un (shrW x 1) := by unfold un; rw [shr_nat, Int.natCast_ediv]; rfl
theorem w_neg (y : UInt32) : -un y % 4294967296 = un (0 - y) := by
  unfold un
  rw [UInt32.toNat_sub]
  have := u32_lt y
  show _ = (((4294967296 - y.toNat + 0) % 4294967296 : Nat) : Int)
  omega
theorem crcStep_val (c : UInt32) : bits .xor .u32 (un c / 2) (bits .and .u32 3988292384 (-bits .and .u32 (un c) 1 % 4294967296)) = un (stepW c) := by
  have e1 : bits .and .u32 (un c) 1 = un (c &&& 1) := w_and c 1
  rw [shr1, e1, w_neg]
  have e2 : bits .and .u32 3988292384 (un (0 - (c &&& 1))) = un (3988292384 &&& (0 - (c &&& 1))) := w_and 3988292384 _
  rw [e2, w_xor]
  rfl
theorem crcStep_any (c : UInt32) (w : World) : Calls Tryz.prog 148 #[.int .u32 (un c)] w fun e w' => e = .returned (.int .u32 (un (stepW c))) ∧ w = w' := by
  have HV := Lib.hid (crcStep_val c)
  go_enter Tryz.func148, Tryz.ntmps148
  go_wp2_with fail
  go_ret
  exact ⟨by rw [← HV.out]; rfl, rfl⟩
end Go.Proofs.YtcfbbgbjlgonpaaGreatDoor
