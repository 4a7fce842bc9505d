/- Own texts of this claim, one behind the other. No condition. -/
import Derived.Test.YtcfbbgbjlgonpaaGreatDoorObPkAC
import Derived.Test.YtcfbbgbjlgonpaaGreatDoorObPkAI
import Derived.Test.YtcfbbgbjlgonpaaGreatDoorObPkAN
import Derived.Test.YtcfbbgbjlgonpaaGreatDoorObPkAW

/- Counters: the next block of a stream. No condition. -/
namespace Go.Proofs.YtcfbbgbjlgonpaaGreatDoor
open Go.RowKit
set_option linter.unusedVariables false
set_option linter.unusedSimpArgs false
theorem Tch.rowC {S : Nat → Prop} {w : World} (g : Nat) (cs : Array Value) (hS : S g) : Tch S w (w.setRow g cs) :=
  ⟨byRow_below (Below.refl 0 w) (Nat.zero_le _) cs, fun b _ hn => setRow_other w g b cs (fun e => hn (e ▸ hS))⟩
def RetBlock (w : World) (g : Nat) (E N : List UInt8) (e : Ending) (w' : World) : Prop :=
  ∃ b, e = .returned (.slice (some ⟨b, 0, none⟩) 16 16) ∧ By w' b 151 E ∧ w.heap.size ≤ b ∧ By w' g 151 N ∧ Tch (fun x => x = g) w w'
set_option maxRecDepth 100000 in
set_option maxHeartbeats 2000000 in
theorem ctrBlock_any (h g : Nat) (K c : List UInt8) (hK : K.length = 240) (hc : c.length = 16) (w : World) (hh : By w h 153 K) (hg : By w g 151 c) :
    Calls Tryz.prog 140 #[.pointer (some ⟨h, 0, none⟩), .pointer (some ⟨g, 0, none⟩)] w (RetBlock w g (encL K c) (nextL c)) := by
  have hgl := Blk.lt hg
  have HAE := Lib.hid (aesEncrypt_any K c hK hc w)
  have HNX := Lib.hid (ctrNext_any c hc)
  have HEL : Hid ((encL K c).length = 16) := encTo_len K c 14
  have HNL := Lib.hid (nextL_len hc)
  have HK := Lib.hid hh; have HG := Lib.hid hg; have HKL := Lib.hid hK; have HCL := Lib.hid hc
  clear hh hg hK hc
  obtain ⟨E, hE⟩ : ∃ E, E = encL K c := ⟨_, rfl⟩
  obtain ⟨N, hN⟩ : ∃ N, N = nextL c := ⟨_, rfl⟩
  rw [← hE] at HAE HEL ⊢
  rw [← hN] at HNX HNL ⊢
  clear hE hN
  go_enter Tryz.func140, Tryz.ntmps140
  go_upto_region 1 with fail
  go_upto_region 2 with (first
    | (refine wpList_load_row rfl 153 (.tmp 0) rfl h rfl 153 _ (0, 0) _ HK.out Tryz.underlying153 rfl (sizeK _ HKL.out) ?_)
    | (refine wpList_load_row rfl 151 (.tmp 1) rfl g rfl 151 _ (0, 0) _ HG.out Tryz.underlying151 rfl (size16 _ HCL.out) ?_)
    | (go_at_call 141; refine HAE.out.mono ?_; rintro e w1 ⟨rfl, g1⟩; have G1 := Lib.hid g1; clear g1; unfold arr)
    | (refine wpList_store_row rfl 151 (.tmp 3) (.tmp 6) rfl w1.heap.size (E.map u8c).toArray rfl rfl 151 _ (show By _ w1.heap.size 151 (List.replicate 16 0) from heap_alloc_new w1 _) (size16 _ HEL.out) (by rw [arr_size, arr_size, HEL.out]; rfl) (arr_one _) ?_))
  obtain ⟨b, hb⟩ : ∃ b, b = w1.heap.size := ⟨_, rfl⟩
  rw [← hb]
  obtain ⟨W2, hW2⟩ : ∃ W2, W2 = (w1.alloc (.cells z16.toArray 151)).setRow b (E.map u8c).toArray := ⟨_, rfl⟩
  first | rw [← hW2] | (change Code.wp _ _ _ _ ((w1.alloc (.cells z16.toArray 151)).setRow b (E.map u8c).toArray); rw [← hW2])
  have HB2 : Hid (By W2 b 151 E) := by rw [hW2, hb]; exact By.row (l := List.replicate 16 0) (heap_alloc_new w1 _)
  have HG2 : Hid (Gr w W2) := by rw [hW2]; exact byRow_below (G1.out.trans (Gr.alloc _ _)) (by rw [hb]; exact G1.out.size) _
  have HBL : Hid (w.heap.size ≤ b) := by rw [hb]; exact G1.out.size
  have HGC : Hid (By W2 g 151 c) := HG2.out.blk HG.out
  clear hW2 hb
  have HNW := Lib.hid (HNX.out W2)
  go_upto_region 3 with (first
    | (refine wpList_load_row rfl 151 (.tmp 1) rfl g rfl 151 _ (0, 0) _ HGC.out Tryz.underlying151 rfl (size16 _ HCL.out) ?_)
    | (go_at_call 142; refine HNW.out.mono ?_; rintro e w3 ⟨rfl, g3⟩; have G3 := Lib.hid g3; have HG3 : Hid (By w3 g 151 c) := g3.blk HGC.out; clear g3; unfold arr)
    | (refine wpList_store_row rfl 151 (.tmp 1) (.tmp 8) rfl g (N.map u8c).toArray rfl rfl 151 _ HG3.out (size16 _ HNL.out) (by rw [arr_size, arr_size, HNL.out, HCL.out]) (arr_one _) ?_))
  obtain ⟨W4, hW4⟩ : ∃ W4, W4 = w3.setRow g (N.map u8c).toArray := ⟨_, rfl⟩
  have HG4 : Hid (By W4 g 151 N) := by rw [hW4]; exact HG3.out.row
  have HBL2 := HBL.out
  have HB4 : Hid (By W4 b 151 E) := by rw [hW4]; exact (setRow_other w3 g b _ (by omega)).trans (G3.out.blk HB2.out)
  have HT : Hid (Tch (fun x => x = g) w W4) := by rw [hW4]; exact (Tch.gr (HG2.out.trans G3.out)).trans (Tch.rowC g _ rfl)
  rw [← hW4]
  clear hW4 HG3 HB2 G3 HG2 HGC HNW HNX HAE G1 HBL2 hgl
  have hx := run_arr16 b
  go_wp2_with fail
  go_ret
  exact ⟨b, rfl, HB4.out, HBL.out, HG4.out, HT.out⟩
end Go.Proofs.YtcfbbgbjlgonpaaGreatDoor

/- Counters: a stream. No condition. -/
namespace Go.Proofs.YtcfbbgbjlgonpaaGreatDoor
open Go.RowKit
set_option linter.unusedVariables false
set_option linter.unusedSimpArgs false
/-- The counter behind k blocks. -/
def ctrTo (c : List UInt8) : Nat → List UInt8
  | 0 => c
  | k + 1 => nextL (ctrTo c k)
theorem ctrTo_len {c : List UInt8} (h : c.length = 16) : ∀ k, (ctrTo c k).length = 16
  | 0 => h
  | k + 1 => nextL_len (ctrTo_len h k)
/-- k blocks of the stream. -/
def streamTo (K c : List UInt8) : Nat → List UInt8
  | 0 => []
  | k + 1 => streamTo K c k ++ encL K (ctrTo c k)
theorem streamTo_len (K c : List UInt8) : ∀ k, (streamTo K c k).length = 16 * k
  | 0 => rfl
  | k + 1 => by rw [streamTo, List.length_append, streamTo_len K c k]; have : (encL K (ctrTo c k)).length = 16 := encTo_len _ _ 14; omega
def streamL (key nonce : List UInt8) (n : Nat) : List UInt8 := (streamTo (schedL key) nonce ((n + 15) / 16)).take n
theorem streamL_len (key nonce : List UInt8) (n : Nat) : (streamL key nonce n).length = n := by unfold streamL; rw [List.length_take, streamTo_len]; omega
theorem By.kept {w w' : World} {g : Nat} {t : TypeId} {l : List UInt8} {v v' : Value} (h : By w g t l) (hk : Kept w w' v v') (hn : v.ownBlock ≠ some g) : By w' g t l := (hk.1 g (Blk.lt h) hn).trans h
theorem By.bs {w : World} {g n : Nat} {t : TypeId} {l : List UInt8} (h : By w g t l) (hl : l.length = n) (hn : n ≤ 9223372036854775807) : Bs w (some ⟨g, 0, none⟩) n n l :=
  ⟨by rw [List.length_map, hl]; omega, Nat.le_refl _, hn, fun _ => ⟨g, 0, rfl, fun j u hu => by rw [Nat.zero_add, Blk.cell h]; exact hu⟩⟩
def slM : Value → Nat
  | .slice _ n _ => n
  | _ => 0
def RetStream (w : World) (key nonce : List UInt8) (n : Nat) (e : Ending) (w' : World) : Prop :=
  ∃ A, e = .returned (.tuple #[.slice A n n, .int .i64 0]) ∧ Bs w' A n n (streamL key nonce n) ∧ Gr w w'
set_option maxRecDepth 100000 in
set_option maxHeartbeats 4000000 in
theorem ctrStream_any (A B : Option Addr) (c d n : Nat) (key nonce : List UInt8) (w : World) (hk : Bs w A 32 c key) (hn : Bs w B 16 d nonce) (hs : n ≤ 65536) :
    Calls Tryz.prog 113 #[.slice A 32 c, .slice B 16 d, .int .i64 (n : Int)] w (RetStream w key nonce n) := by
  have HBE := Lib.hid (ctrBegun_any A B c d key nonce w hk hn)
  have HKL := Lib.hid (schedL_len (hk.len : key.length = 32))
  have HNL : Hid (nonce.length = 16) := hn.len
  have p0 : (0 : Int) ≤ n := by omega
  have t0 : decide ((n : Int) < 0) = false := decide_eq_false (by omega)
  have t1 : decide ((65536 : Int) < n) = false := decide_eq_false (by omega)
  clear hk hn
  obtain ⟨F, hF⟩ : ∃ F, F = schedL key := ⟨_, rfl⟩
  unfold RetStream streamL
  rw [← hF] at HBE HKL ⊢
  clear hF
  go_enter Tryz.func113, Tryz.ntmps113
  go_upto_region 1 with fail
  go_upto_region 2 with (first
    | (go_at_call 139; refine HBE.out.mono ?_; rintro e w1 ⟨rfl, g1⟩; have G1 := Lib.hid g1; clear g1; unfold arr)
    | (change wpList _ _ _ _ _ ((w1.alloc (.cells (reps 240 (.int .u8 0)).toArray 153)).alloc (.cells z16.toArray 151))
       obtain ⟨h, hh⟩ : ∃ h, h = w1.heap.size := ⟨_, rfl⟩
       obtain ⟨W2, hW2⟩ : ∃ W2, W2 = (w1.alloc (.cells (reps 240 (.int .u8 0)).toArray 153)).alloc (.cells z16.toArray 151) := ⟨_, rfl⟩
       have HZ1 : Hid (By W2 h 153 (List.replicate 240 0)) := by rw [hW2, hh]; exact (Gr.alloc _ _).blk (show By (w1.alloc (.cells (reps 240 (.int .u8 0)).toArray 153)) w1.heap.size _ _ from heap_alloc_new w1 _)
       have HZ2 : Hid (By W2 (h + 1) 151 (List.replicate 16 0)) := by rw [hW2, hh]; exact heap_alloc2_new w1 _ _
       have HG2 : Hid (Gr w W2) := by rw [hW2]; exact G1.out.trans ((Gr.alloc _ _).trans (Gr.alloc _ _))
       have HH : Hid (w.heap.size ≤ h) := by rw [hh]; exact G1.out.size
       rw [← hW2, ← hh]
       clear hW2 hh
       refine wpList_store_row rfl 153 (.tmp 8) (.tmp 15) rfl h (F.map u8c).toArray rfl rfl 153 _ HZ1.out (sizeK _ HKL.out) (by rw [arr_size, arr_size, HKL.out]; rfl) (arr_one _) ?_
       obtain ⟨W3, hW3⟩ : ∃ W3, W3 = W2.setRow h (F.map u8c).toArray := ⟨_, rfl⟩
       have HF3 : Hid (By W3 h 153 F) := by rw [hW3]; exact HZ1.out.row
       have HC3 : Hid (By W3 (h + 1) 151 (List.replicate 16 0)) := by rw [hW3]; exact (setRow_other W2 h (h + 1) _ (by omega)).trans HZ2.out
       have HG3 : Hid (Gr w W3) := by rw [hW3]; exact byRow_below HG2.out HH.out _
       rw [← hW3]
       clear hW3 HZ1 HZ2 HG2)
    | (refine wpList_store_row rfl 151 (.tmp 9) (.tmp 16) rfl (h + 1) (nonce.map u8c).toArray rfl rfl 151 _ HC3.out (size16 _ HNL.out) (by rw [arr_size, arr_size, HNL.out]; rfl) (arr_one _) ?_
       obtain ⟨W4, hW4⟩ : ∃ W4, W4 = W3.setRow (h + 1) (nonce.map u8c).toArray := ⟨_, rfl⟩
       have HF4 : Hid (By W4 h 153 F) := by rw [hW4]; exact (setRow_other W3 (h + 1) h _ (by omega)).trans HF3.out
       have HC4 : Hid (By W4 (h + 1) 151 nonce) := by rw [hW4]; exact HC3.out.row
       have HG4 : Hid (Gr w W4) := by rw [hW4]; exact byRow_below HG3.out (Nat.le_succ_of_le HH.out) _
       rw [← hW4]
       clear hW4 HF3 HC3 HG3))
  go_wp2_with fail
  first | go_step3 | skip
  go_wp2_with fail
  first | go_step3 | skip
  go_wp2_with fail
  go_loopw [6] (fun v wr => ∃ (k : Nat) (A' : Option Addr) (c' : Nat), v = .slice A' (16 * k) c' ∧ 16 * k < n + 16 ∧ Own w wr 5 1 (.slice A' (16 * k) c') (16 * k) ((streamTo F nonce k).map u8c) ∧ By wr h 153 F ∧ By wr (h + 1) 151 (ctrTo nonce k)) (fun v _ => 70000 - slM v)
  case atStart => exact ⟨0, none, 0, rfl, by omega, Own.nil' HG4.out _ _, HF4.out, HC4.out⟩
  case round =>
    obtain ⟨k, A1, c1, rfl, hk, o1, f1, n1⟩ := hrel
    have O1 := Lib.hid o1; have F1 := Lib.hid f1; have N1 := Lib.hid n1
    have e1 := Own.not_blk o1 f1 (by decide)
    have e2 := Own.not_blk o1 n1 (by decide)
    have E1 := Lib.hid e1; have E2 := Lib.hid e2
    obtain ⟨_, _, hv1, s1⟩ := o1.slice
    injection hv1 with hv1 _ hv3
    subst hv1 hv3
    have q1 := s1.cap; have m1 := s1.max
    have S1 := Lib.hid s1
    clear o1 f1 n1 e1 e2 s1
    by_cases hlt : 16 * k < n
    · have t2 : decide (((16 * k : Nat) : Int) < (n : Int)) = true := decide_eq_true (by omega)
      have HBK := Lib.hid (ctrBlock_any h (h + 1) F (ctrTo nonce k) HKL.out (ctrTo_len HNL.out k) wr F1.out N1.out)
      go_wp2_with fail
      refine HBK.out.mono ?_
      rintro e w5 ⟨b, rfl, hb5, hbs5, hn5, ht5⟩
      have HT5 := Lib.hid ht5
      have B5 := Lib.hid hb5
      have N5 : Hid (By w5 (h + 1) 151 (ctrTo nonce (k + 1))) := hn5
      have F5 : Hid (By w5 h 153 F) := Blk.tch F1.out ht5 (by omega)
      have O5 : Hid (Own w w5 5 1 (.slice A1 (16 * k) c1) (16 * k) ((streamTo F nonce k).map u8c)) := Own.tch O1.out ht5 (fun x hx => by rw [hx]; exact Nat.le_succ_of_le HH.out) (fun x hx hy => E2.out (by rw [hx, hy]))
      have S5 := Lib.hid (hb5.bs (n := 16) (encTo_len _ _ 14) (by decide))
      have ES : Hid ((streamTo F nonce k).map u8c ++ (encL F (ctrTo nonce k)).map u8c = (streamTo F nonce (k + 1)).map u8c) := by show _ = _; rw [← List.map_append]; rfl
      have H16 : Hid (16 * k + 16 = 16 * (k + 1)) := by show _ = _; omega
      clear hb5 hbs5 hn5 ht5
      go_wp2_with (at_builtin; refine wpList_catG rfl (.tmp 34) (.tmp 36) 28 rfl tBytes rfl O5.out rfl S5.out (one_bytes _) (by omega) ?_; intro v6 w6 own6 kept6; obtain ⟨A6, k6, rfl, sl6⟩ := own6.slice; have O6 := Lib.hid own6; have F6 : Hid (By w6 h 153 F) := F5.out.kept kept6 E1.out; have N6 : Hid (By w6 (h + 1) 151 (ctrTo nonce (k + 1))) := N5.out.kept kept6 E2.out; clear own6 kept6 sl6)
      first | go_roundw | skip
      case rel => exact ⟨k + 1, A6, k6, by rw [H16.out], by omega, by rw [← ES.out, ← H16.out]; exact O6.out, F6.out, N6.out⟩
      case measure => simp [slM]; omega
    · have t2 : decide (((16 * k : Nat) : Int) < (n : Int)) = false := decide_eq_false (by omega)
      have q2 : n ≤ c1 := by omega
      go_wp2_with fail
      try rw [Exit.noGoto_ret]
      go_ret2
      have hN : (n + 15) / 16 = k := by omega
      refine ⟨A1, rfl, ?_, O1.out.below⟩
      have := S1.out.upto (k := n) (by omega)
      rw [← List.map_take] at this
      rw [hN]
      exact ⟨this.1, Nat.le_refl _, by simp only [maxLen]; omega, this.2.2.2⟩
end Go.Proofs.YtcfbbgbjlgonpaaGreatDoor

/- Counters: a stream over a text. No condition. -/
namespace Go.Proofs.YtcfbbgbjlgonpaaGreatDoor
open Go.RowKit
set_option linter.unusedVariables false
set_option linter.unusedSimpArgs false
def overL (key nonce text : List UInt8) : List UInt8 := xorL text (streamL key nonce text.length)
theorem overL_len (key nonce text : List UInt8) : (overL key nonce text).length = text.length := by unfold overL xorL; rw [List.length_zipWith, streamL_len, Nat.min_self]
def RetOver (w : World) (key nonce text : List UInt8) (e : Ending) (w' : World) : Prop :=
  ∃ v, e = .returned (.tuple #[v, .int .i64 0]) ∧ Own w w' 5 1 v text.length ((overL key nonce text).map u8c)
set_option maxRecDepth 100000 in
set_option maxHeartbeats 1000000 in
theorem ctrOver_any (A B C : Option Addr) (c d m n : Nat) (key nonce text : List UInt8) (w : World) (hk : Bs w A 32 c key) (hn : Bs w B 16 d nonce) (ht : Bs w C n m text) (hs : n ≤ 65536) :
    Calls Tryz.prog 79 #[.slice A 32 c, .slice B 16 d, .slice C n m] w (RetOver w key nonce text) := by
  have HST := Lib.hid (ctrStream_any A B c d n key nonce w hk hn hs)
  have htl : text.length = n := ht.len
  have HT := Lib.hid ht; have HTL := Lib.hid htl; have HS := Lib.hid hs
  have hcm := Sl.cap ht; have hmm := Sl.max ht
  have HOL := Lib.hid (overL_len key nonce text)
  clear hk hn ht htl hs
  go_enter Tryz.func79, Tryz.ntmps79
  go_wp2_with fail
  refine HST.out.mono ?_
  rintro e w1 ⟨A1, rfl, s1, g1⟩
  have S1 := Lib.hid s1; have G1 := Lib.hid g1
  have HX := Lib.hid (xor_any C A1 n n m n text (streamL key nonce n) w1 (HT.out.mono g1) s1 (Nat.le_trans HS.out (by decide)))
  clear s1 g1
  go_wp2_with fail
  refine HX.out.mono ?_
  rintro e w2 ⟨v2, rfl, o2⟩
  have O2 := Lib.hid o2; clear o2
  go_wp2_with fail
  go_ret2
  refine ⟨v2, rfl, ?_⟩
  have h := O2.out
  have e1 : xorL text (streamL key nonce n) = overL key nonce text := by unfold overL; rw [HTL.out]
  rw [e1, HOL.out] at h
  exact ⟨⟨h.1.1, h.1.2.imp id (fun ⟨g, x, y, z, a, r⟩ => ⟨g, x, y, z, Nat.le_trans G1.out.size a, r⟩)⟩, below_both G1.out h.2⟩
end Go.Proofs.YtcfbbgbjlgonpaaGreatDoor

/- Boxes: the two keys. No condition. -/
namespace Go.Proofs.YtcfbbgbjlgonpaaGreatDoor
open Go.RowKit
set_option linter.unusedVariables false
set_option linter.unusedSimpArgs false
def sealS : List UInt8 := [115, 101, 97, 108]
def tagS : List UInt8 := [116, 97, 103]
theorem derive1_any (p : Nat) (A : Option Addr) (n c : Nat) (k s : List UInt8) (w : World) (hp : w.cell? ⟨p, 0, none⟩ = some (.slice A n c)) (hk : Bs w A n c k) (hn : n ≤ 50000) (hs : s.length ≤ 5000) (hK : ShaK w) :
    Calls Tryz.prog 112 #[.string ⟨s.toArray⟩, .pointer (some ⟨p, 0, none⟩)] w (RetRo w (deriveL k s)) := by
  have HD := Lib.hid (deriveO_any A n c k s w hk hn hs hK)
  clear hk hK
  go_enter Tryz.func112, Tryz.ntmps112
  go_wp2_with fail
  refine HD.out.mono ?_
  rintro e w1 ⟨A1, c1, k1, rfl, s1, o1⟩
  have S1 := Lib.hid s1; have O1 := Lib.hid o1
  clear s1 o1
  go_wp2_with fail
  go_ret
  exact ⟨A1, c1, k1, rfl, S1.out, O1.out⟩
/-- Two rows of 32 bytes. -/
def RetKeys (w : World) (k : List UInt8) (e : Ending) (w' : World) : Prop :=
  ∃ A c B d, e = .returned (.tuple #[.slice A 32 c, .slice B 32 d]) ∧ Bs w' A 32 c (deriveL k sealS) ∧ Bs w' B 32 d (deriveL k tagS) ∧ Gr w w'
set_option maxRecDepth 100000 in
set_option maxHeartbeats 1000000 in
theorem boxKeys_any (A : Option Addr) (n c : Nat) (k : List UInt8) (w : World) (hk : Bs w A n c k) (hn : n ≤ 50000) (hK : ShaK w) :
    Calls Tryz.prog 78 #[.slice A n c] w (RetKeys w k) := by
  have HB := Lib.hid hk; have HK := Lib.hid hK
  have HL1 := Lib.hid (deriveL_len k sealS); have HL2 := Lib.hid (deriveL_len k tagS)
  obtain ⟨p, hp⟩ : ∃ p, p = w.heap.size := ⟨_, rfl⟩
  obtain ⟨W, hW⟩ : ∃ W, W = w.alloc (.cells #[.slice A n c] 28) := ⟨_, rfl⟩
  have hg : Gr w W := by rw [hW]; exact Gr.alloc _ _
  have hb : Blk W p 28 [.slice A n c] := by rw [hW, hp]; exact Blk.new w _ _
  have HG := Lib.hid hg; have HP := Lib.hid hb; have HW := Lib.hid hW; have HPP := Lib.hid hp
  clear hk hK hg hb hW hp
  go_enter Tryz.func78, Tryz.ntmps78
  go_upto_region 1 with fail
  rw [← HW.out, ← HPP.out]
  have h1 := derive1_any p A n c k sealS W ((HP.out.cell 0).trans rfl) (HB.out.mono HG.out) hn (by decide) (HK.out.mono HG.out)
  go_wp2_with fail
  refine h1.mono ?_
  rintro e w1 ⟨A1, c1, k1, rfl, s1, o1⟩
  clear h1
  have S1 := Lib.hid s1; have G1 := Lib.hid (HG.out.trans o1.below)
  have HP1 : Hid (Blk w1 p 28 [.slice A n c]) := HP.out.mono o1.below
  clear s1 o1
  have h2 := derive1_any p A n c k tagS w1 ((HP1.out.cell 0).trans rfl) (HB.out.mono G1.out) hn (by decide) (HK.out.mono G1.out)
  go_wp2_with fail
  refine h2.mono ?_
  rintro e w2 ⟨A2, c2, k2, rfl, s2, o2⟩
  clear h2
  have S2 := Lib.hid s2; have G2 := Lib.hid (G1.out.trans o2.below)
  have S1' := Lib.hid (S1.out.mono o2.below)
  clear s2 o2
  rw [HL1.out] at S1'
  rw [HL2.out] at S2
  go_wp2_with fail
  go_ret2
  exact ⟨A1, c1, A2, c2, rfl, S1'.out, S2.out, G2.out⟩
end Go.Proofs.YtcfbbgbjlgonpaaGreatDoor
