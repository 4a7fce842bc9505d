import Derived.Test.YtbmijjodpdbbmaaDoorObRefU
import Derived.Test.YtbmijjodpdbbmaaDoorObMacK
import Derived.Test.YtbmijjodpdbbmaaDoorObKdfD
import Derived.Test.YtbmijjodpdbbmaaDoorObDigW
namespace Go.Proofs.YtbmijjodpdbbmaaDoor
open Go.RowKit
set_option linter.unusedVariables false

/-! ### the reference's mac and kdf -/
theorem refKey_any (A : Option Addr) (n c : Nat) (l : List UInt8) (w : World) (h : Bs w A n c l) (hn : n ≤ 50000) :
    Calls Tryd.prog 126 #[.slice A n c] w (RetBs w (keyL l)) := by
  have hl : l.length = n := by have := Sl.len h; simpa using this
  have HH := Lib.hid h; clear h
  by_cases h64 : 64 < n
  · have e1 : keyL l = padL (sumL l) 64 := by unfold keyL; rw [if_pos (by omega)]
    rw [e1]
    obtain ⟨M, hM⟩ : ∃ M, M = sumL l := ⟨_, rfl⟩
    rw [← hM]
    have HM := Lib.hid hM; clear hM e1
    go_enter Tryd.func126, Tryd.ntmps126
    go_wp2_with (first
      | (go_at_call 95; refine (refSum_any A n c l _ HH.out (by omega)).mono ?_; rintro e w1 ⟨v1, rfl, own1⟩; rw [← HM.out] at own1; obtain ⟨A1, k1, rfl, sl1⟩ := own1.slice; have O1 := Lib.hid own1; have S1 := Lib.hid sl1; clear own1 sl1)
      | (go_at_call 144; refine (refPad_yes A1 _ k1 M 64 _ S1.out (by omega) (by omega)).mono ?_; rintro e w2 ⟨v2, rfl, own2⟩; have O2 := Lib.hid own2; clear own2))
    go_ret
    exact ⟨_, rfl, O2.out.base O1.out.below⟩
  · have e1 : keyL l = padL l 64 := by unfold keyL; rw [if_neg (by omega)]
    rw [e1]
    go_enter Tryd.func126, Tryd.ntmps126
    go_wp2_with (go_at_call 144; refine (refPad_yes A n c l 64 _ HH.out (by omega) (by omega)).mono ?_; rintro e w2 ⟨v2, rfl, own2⟩; have O2 := Lib.hid own2; clear own2)
    go_ret
    exact ⟨_, rfl, O2.out⟩

theorem xorRep_at (k : List UInt8) (x : UInt8) (i : Nat) (hk : i < k.length) (h64 : i < 64) : bits .xor .u8 (bAt k i) (x.toNat : Int) = bAt (xorL k (List.replicate 64 x)) i := by
  rw [← xor_byte k (List.replicate 64 x) i hk (by simpa using h64)]
  congr 1
  rw [bAt, List.getD_eq_getElem?_getD, List.getElem?_replicate, if_pos h64]
  rfl
theorem xorRep_take (L : List UInt8) (k : Nat) (h : k < L.length) : (L.take k).map u8c ++ [.int .u8 (bAt L k)] = (L.take (k + 1)).map u8c := (map_take_cell L k h).symm
set_option maxHeartbeats 1000000 in
theorem over_any (A : Option Addr) (n c : Nat) (l : List UInt8) (x : UInt8) (xi : Int) (hx : xi = (x.toNat : Int)) (w : World) (h : Bs w A n c l) (hn : n ≤ 50000) :
    Calls Tryd.prog 96 #[.slice A n c, .int .u8 xi] w (RetBs w (keyX l x)) := by
  have HKEY := Lib.hid (refKey_any A n c l w h hn); clear h
  have hlen := keyX_len l x
  have hxe : ∀ i, i < 64 → bits .xor .u8 (bAt (keyL l) i) xi = bAt (keyX l x) i := fun i hi => by rw [hx]; exact xorRep_at _ _ _ (by rw [keyL_len]; exact hi) hi
  have hkl := keyL_len l
  generalize keyX l x = X at *
  generalize keyL l = K at *
  have HLEN := Lib.hid hlen; have HXE := Lib.hid hxe; have HKL := Lib.hid hkl; clear hlen hxe hkl hx
  go_enter Tryd.func96, Tryd.ntmps96
  go_wp2_with fail
  refine HKEY.out.mono ?_
  rintro e w1 ⟨v1, rfl, own1⟩
  rw [HKL.out] at own1
  obtain ⟨A1, k1, rfl, sl1⟩ := own1.slice
  obtain ⟨b1, o1, rfl, hc1⟩ := Bs.addr sl1 (by omega)
  have cap1 := sl1.cap
  have HC1 := Lib.hid hc1; have B1 := Lib.hid own1.below; clear own1 sl1 hc1
  go_wp2_with fail
  go_loopw [5, 7] (fun v i wr => ∃ k : Nat, k ≤ 64 ∧ i = .int .i64 k ∧ Own w1 wr 5 1 v k ((X.take k).map u8c)) (fun _ i _ => 64 - (intOf i).toNat)
  case atStart => exact ⟨0, Nat.zero_le _, rfl, Own.nil _ _ _⟩
  case round =>
    obtain ⟨k, hk, rfl, hown⟩ := hrel
    have HO := Lib.hid hown
    by_cases hlt : k < 64
    · have c1 := hown.below.cell (p := ⟨b1, o1 + k, none⟩) (World.block_lt_of_cell? w1 _ (HC1.out k (by omega)))
      rw [HC1.out k (by omega)] at c1
      have i1 : (k : Int) < 64 := by omega
      clear hown
      go_wp2_with (at_builtin; refine wpList_push rfl (.tmp 14) (.tmp 21) 22 rfl tBytes rfl HO.out #[.int .u8 (bits .xor .u8 (bAt K k) xi)] rfl rfl (one_int _ _) (by omega) ?_; intro v2 w2 own2; have O2 := Lib.hid own2; clear own2)
      have F2 : Hid (Own w1 w2 5 1 v2 (k + 1) ((X.take (k + 1)).map u8c)) := by
        have := O2.out
        rw [HXE.out k hlt] at this
        rw [← xorRep_take X k (by rw [HLEN.out]; exact hlt)]
        exact this
      clear O2
      go_roundw
      case rel => exact ⟨k + 1, by omega, by go_num, F2.out⟩
      case measure => simp [intOf]; omega
    · obtain rfl : k = 64 := by omega
      clear hown
      go_wp2_with fail
      go_ret
      refine ⟨_, rfl, ?_⟩
      have := HO.out
      rw [List.take_of_length_le (by rw [HLEN.out]; omega)] at this
      rw [HLEN.out]
      exact this.base B1.out
set_option maxHeartbeats 1000000 in
theorem refMac_any (A B : Option Addr) (n c m d : Nat) (k t : List UInt8) (w : World) (h : Bs w A n c k) (hn : n ≤ 50000) (ht : Bs w B m d t) (hm : m ≤ 40000) :
    Calls Tryd.prog 72 #[.slice A n c, .slice B m d] w (RetBs w (macL k t)) := by
  have htl : t.length = m := by have := Sl.len ht; simpa using this
  have HH := Lib.hid h; have HT := Lib.hid ht; clear h ht
  obtain ⟨X1, hX1⟩ : ∃ X1, X1 = keyX k 54 := ⟨_, rfl⟩
  obtain ⟨X2, hX2⟩ : ∃ X2, X2 = keyX k 92 := ⟨_, rfl⟩
  have hX1l : X1.length = 64 := by rw [hX1, keyX_len]
  have hX2l : X2.length = 64 := by rw [hX2, keyX_len]
  obtain ⟨S1, hS1⟩ : ∃ S1, S1 = sumL (X1 ++ t) := ⟨_, rfl⟩
  have hS1l : S1.length = 32 := by rw [hS1, sumL_len]
  have hM : macL k t = sumL (X2 ++ S1) := by unfold macL; rw [← hX1, ← hX2, ← hS1]
  rw [hM]
  have C1 : Hid (∀ W, Below w.heap.size w W → Calls Tryd.prog 96 #[.slice A n c, .int .u8 54] W (RetBs W X1)) := by rw [hX1]; exact fun W hW => over_any A n c k 54 54 rfl W (HH.out.mono hW) hn
  have C2 : Hid (∀ W, Below w.heap.size w W → Calls Tryd.prog 96 #[.slice A n c, .int .u8 92] W (RetBs W X2)) := by rw [hX2]; exact fun W hW => over_any A n c k 92 92 rfl W (HH.out.mono hW) hn
  have HJ1 : Hid ((X1 ++ t).length = 64 + m) := by show _ = _; rw [List.length_append, hX1l, htl]
  have HJ2 : Hid ((X2 ++ S1).length = 96) := by show _ = _; rw [List.length_append, hX2l, hS1l]
  clear htl
  have HS1 := Lib.hid hS1; have HX1l := Lib.hid hX1l; have HX2l := Lib.hid hX2l; have HS1l := Lib.hid hS1l
  clear hX1 hX2 hS1 hX1l hX2l hS1l hM
  go_enter Tryd.func72, Tryd.ntmps72
  go_wp2_with fail
  refine (C1.out w (Below.refl _ _)).mono ?_
  rintro e w1 ⟨v1, rfl, own1⟩
  rw [HX1l.out] at own1
  obtain ⟨A1, k1, rfl, sl1⟩ := own1.slice
  have B1 := Lib.hid own1.below; have S1' := Lib.hid sl1; clear own1 sl1
  go_wp2_with fail
  refine (join_any A1 B 64 m k1 d X1 t _ S1'.out (HT.out.mono B1.out) (by omega)).mono ?_
  rintro e w2 ⟨v2, rfl, own2⟩
  rw [HJ1.out] at own2
  obtain ⟨A2, k2, rfl, sl2⟩ := own2.slice
  have B2 := Lib.hid (below_both B1.out own2.below); have S2 := Lib.hid sl2; clear own2 sl2
  go_wp2_with fail
  refine (refSum_any A2 _ k2 (X1 ++ t) _ S2.out (by omega)).mono ?_
  rintro e w3 ⟨v3, rfl, own3⟩
  rw [← HS1.out, HS1l.out] at own3
  obtain ⟨A3, k3, rfl, sl3⟩ := own3.slice
  have B3 := Lib.hid (below_both B2.out own3.below); have S3 := Lib.hid sl3; clear own3 sl3
  go_wp2_with fail
  refine (C2.out w3 B3.out).mono ?_
  rintro e w4 ⟨v4, rfl, own4⟩
  rw [HX2l.out] at own4
  obtain ⟨A4, k4, rfl, sl4⟩ := own4.slice
  have B4 := Lib.hid own4.below; have S4 := Lib.hid sl4; clear own4 sl4
  go_wp2_with fail
  refine (join_any A4 A3 64 32 k4 k3 X2 S1 _ S4.out (S3.out.mono B4.out) (by omega)).mono ?_
  rintro e w5 ⟨v5, rfl, own5⟩
  rw [HJ2.out] at own5
  obtain ⟨A5, k5, rfl, sl5⟩ := own5.slice
  have B5 := Lib.hid (below_both (below_both B3.out B4.out) own5.below); have S5 := Lib.hid sl5; clear own5 sl5
  go_wp2_with fail
  refine (refSum_any A5 _ k5 (X2 ++ S1) _ S5.out (by omega)).mono ?_
  rintro e w6 ⟨v6, rfl, own6⟩
  have O6 := Lib.hid (own6.base B5.out); clear own6
  go_wp2_with fail
  go_ret
  exact ⟨_, rfl, O6.out⟩

set_option maxHeartbeats 1000000 in
theorem refExpand_any (A C : Option Addr) (n c q e : Nat) (k t : List UInt8) (w : World)
    (hk : Bs w A n c k) (ht : Bs w C q e t) (hn : n ≤ 50000) (hq : q ≤ 10000) :
    Calls Tryd.prog 45 #[.slice A n c, .slice C q e, .int .i64 32] w (fun e w' => ∃ (A' : Option Addr) (c' : Nat), e = .returned (.tuple #[.slice A' 32 c', .int .i64 0]) ∧ Bs w' A' 32 c' (macL k (t ++ [1])) ∧ Below w.heap.size w w') := by
  have htl : t.length = q := by have := Sl.len ht; simpa using this
  obtain ⟨M, hM⟩ : ∃ M, M = macL k (t ++ [1]) := ⟨_, rfl⟩
  have hMl : M.length = 32 := by rw [hM, macL_len]
  rw [← hM]
  have HM := Lib.hid hM; have HML := Lib.hid hMl; clear hM hMl
  have HKB := Lib.hid hk; have HT := Lib.hid ht
  have HJ : Hid ((t ++ [1]).length = q + 1) := by show _ = _; rw [List.length_append, htl]; rfl
  have HTL := Lib.hid htl
  clear hk ht htl
  have ONE : Hid (∀ W : World, Bs (W.alloc (.cells #[.int .u8 1] 5)) (some ⟨W.heap.size, 0, none⟩) 1 1 [1]) := by
    intro W
    refine ⟨by simp, Nat.le_refl _, by simp [maxLen], fun _ => ⟨_, _, rfl, ?_⟩⟩
    intro j u hu
    rw [Nat.zero_add, (Blk.new W _ _).cell]
    exact hu
  go_enter Tryd.func45, Tryd.ntmps45
  go_wp2_with fail
  go_loopw [8, 9, 10] (fun v g i wr => (v = .slice none 0 0 ∧ g = .slice none 0 0 ∧ i = .int .i64 1 ∧ wr = w) ∨ (∃ (A' : Option Addr) (c' : Nat), v = .slice A' 32 c' ∧ i = .int .i64 2 ∧ Bs wr A' 32 c' M ∧ Below w.heap.size w wr)) (fun v _ _ _ => 32 - slN v)
  case atStart => exact .inl ⟨rfl, rfl, rfl, rfl⟩
  case round =>
    rcases hrel with ⟨rfl, rfl, rfl, rfl⟩ | ⟨A1, c1, rfl, rfl, s1, b1⟩
    · go_wp2_with fail
      refine (join_any none C 0 q 0 e [] t _ (Sl.nil _ _) HT.out (by omega)).mono ?_
      rintro e w2 ⟨v2, rfl, own2⟩
      rw [List.nil_append, HTL.out] at own2
      obtain ⟨A2, k2, rfl, sl2⟩ := own2.slice
      have B2 := Lib.hid own2.below; have S2 := Lib.hid sl2; clear own2 sl2
      have hw : IntKind.u8.wrap 1 = 1 := by decide
      go_wp2_with fail
      have AL : Hid (Below w2.heap.size w2 (w2.alloc (.cells #[.int .u8 1] 5))) := (Below.refl _ _).alloc (Nat.le_refl _) _
      refine (join_any A2 _ q 1 k2 1 t [1] _ (S2.out.mono AL.out) (ONE.out w2) (by omega)).mono ?_
      rintro e w3 ⟨v3, rfl, own3⟩
      rw [HJ.out] at own3
      obtain ⟨A3, k3, rfl, sl3⟩ := own3.slice
      have B3 := Lib.hid (below_both (below_both B2.out AL.out) own3.below); have S3 := Lib.hid sl3; clear own3 sl3
      go_wp2_with fail
      refine (refMac_any A A3 n c _ k3 k (t ++ [1]) _ (HKB.out.mono B3.out) hn S3.out (by omega)).mono ?_
      rintro e w4 ⟨v4, rfl, own4⟩
      rw [← HM.out, HML.out] at own4
      obtain ⟨A4, k4, rfl, sl4⟩ := own4.slice
      have B4 := Lib.hid (below_both B3.out own4.below); have S4 := Lib.hid sl4; clear own4 sl4
      go_wp2_with (at_builtin; refine wpList_cat rfl (.tmp 32) (.tmp 33) 22 rfl tBytes rfl (Own.nil' B4.out _ _) rfl S4.out (one_bytes _) (by omega) ?_; intro v5 w5 own5; rw [List.nil_append, Nat.zero_add] at own5; obtain ⟨A5, k5, rfl, sl5⟩ := own5.slice; have B5 := Lib.hid own5.below; have S5 := Lib.hid sl5; clear own5 sl5)
      go_roundw
      case rel => exact .inr ⟨A5, k5, rfl, rfl, S5.out, B5.out⟩
      case measure => simp [slN]
    · have q1 := s1.cap
      have m1 := s1.max
      have S1 := Lib.hid s1; have B1 := Lib.hid b1; clear s1 b1
      go_wp2_with fail
      go_ret2
      exact ⟨A1, c1, rfl, S1.out, B1.out⟩

theorem conv_fn {P : Program} (s : ByteArray) (t : TypeId) (hs : P.underlying 9 = some .string) (hd : P.underlying t = some (.slice 5)) (he : P.underlying 5 = some (.int .u8)) (hm : s.size ≤ maxLen) :
    ∃ (cf : World → Nat) (wf : World → World), ∀ w, (convert 9 t (.string s)).run P w = .ok (.slice (some ⟨w.heap.size, 0, none⟩) s.size (cf w)) (wf w) ∧ Bs (wf w) (some ⟨w.heap.size, 0, none⟩) s.size (cf w) s.data.toList ∧ Below w.heap.size w (wf w) := by
  refine ⟨fun w => grownCap w s.size 0 5, fun w => Lib.bytesWorld w 5 s, fun w => ⟨Lib.run_convert_string_bytes w 9 t 5 s hs hd he, ⟨by simp, grownCap_ge _ _ _ _, grownCap_le_maxLen _ _ _ _ hm, fun _ => ⟨_, _, rfl, fun j u hu => ?_⟩⟩, ?_⟩⟩
  · rw [Nat.zero_add]
    have hj : j < s.size := by have := (List.getElem?_eq_some_iff.1 hu).1; simpa using this
    rw [Lib.bytesWorld_cell w 5 s j hj, ← hu]
    exact (u8c_at (l := s.data.toList) (by simpa using hj)).symm
  · have h1 := run_bytes_of_string (P := P) w 9 t 5 s hs hd he
    have h2 := Lib.run_convert_string_bytes (P := P) w 9 t 5 s hs hd he
    rw [h1] at h2
    injection h2 with _ h3
    show Below w.heap.size w (Lib.bytesWorld w 5 s)
    rw [← h3]
    exact ((Below.refl _ _).drew).alloc (Nat.le_refl _) _
theorem byte_mod (n : Nat) : u8c (UInt8.ofNat (n % 256)) = .int .u8 ((n : Int) % 256) := by
  rw [u8c_ofNat]; exact congrArg _ (by omega)
theorem info_ref (s : List UInt8) : [0, 32, UInt8.ofNat ((10 + s.length) % 256)] ++ textL s = infoL s := by
  unfold infoL
  rw [textL_len]
  have : UInt8.ofNat ((10 + s.length) % 256) = UInt8.ofNat (10 + s.length) := by
    apply UInt8.toNat_inj.1
    simp
  rw [this]
  rfl
set_option maxHeartbeats 1000000 in
theorem refDerive_any (A : Option Addr) (n c : Nat) (k s : List UInt8) (w : World) (hk : Bs w A n c k) (hn : n ≤ 50000) (hs : s.length ≤ 5000) :
    Calls Tryd.prog 15 #[.slice A n c, .string ⟨s.toArray⟩] w (RetRd w (deriveL k s)) := by
  have HKB := Lib.hid hk
  clear hk
  obtain ⟨T, hT⟩ : ∃ T, T = (({ data := #[111, 117, 98, 108, 105, 101, 116, 116, 101, 32] } : ByteArray) ++ { data := s.toArray }) := ⟨_, rfl⟩
  have HT := Lib.hid hT
  have hz : T.size = 10 + s.length := by rw [hT]; exact text_size s
  have hd : T.data.toList = textL s := by rw [hT]; simp [ByteArray.data_append, textL, oubS]
  clear hT
  have HZ := Lib.hid hz; have HD := Lib.hid hd
  clear hz hd
  obtain ⟨cf, wf, hf⟩ := conv_fn (P := Tryd.prog) T 22 Tryd.underlying9 Tryd.underlying22 Tryd.underlying5 (by rw [HZ.out]; simp only [maxLen]; omega)
  have hu8 : IntKind.u8.wrap ((10 + (s.length : Int)) % 256) = (10 + (s.length : Int)) % 256 := wrap_u8 (by omega) (by omega)
  obtain ⟨W, hW⟩ : ∃ W, W = w.alloc (.cells #[.int .u8 0, .int .u8 32, .int .u8 ((10 + (s.length : Int)) % 256)] 5) := ⟨_, rfl⟩
  obtain ⟨h1, h2, h3⟩ := hf W
  generalize cf W = c2 at *
  generalize wf W = W2 at *
  clear hf
  have hzW : W.heap.size = w.heap.size + 1 := by rw [hW]; simp
  rw [HZ.out, hzW] at h2
  rw [HD.out] at h2
  have hcv : (convert 9 22 (.string (({ data := #[111, 117, 98, 108, 105, 101, 116, 116, 101, 32] } : ByteArray) ++ { data := s.toArray }))).run Tryd.prog (w.alloc (.cells #[.int .u8 0, .int .u8 32, .int .u8 ((10 + (s.length : Int)) % 256)] 5)) = .ok (.slice (some ⟨w.heap.size + 1, 0, none⟩) (10 + s.length) c2) W2 := by
    rw [HZ.out, hzW, HT.out] at h1
    rw [← hW]; exact h1
  have hB0 : Below w.heap.size w W := by rw [hW]; exact (Below.refl _ _).alloc (Nat.le_refl _) _
  have B2 : Hid (Below w.heap.size w W2) := below_both hB0 h3
  have S2 := Lib.hid h2
  have S1 : Hid (Bs W2 (some ⟨w.heap.size, 0, none⟩) 3 3 [0, 32, UInt8.ofNat ((10 + s.length) % 256)]) := by
    refine Sl.mono (w := W) ⟨by simp, Nat.le_refl _, by simp [maxLen], fun _ => ⟨_, _, rfl, fun j u hu => ?_⟩⟩ h3
    rw [hW, Nat.zero_add, (Blk.new w _ _).cell]
    rw [← hu]
    have e : u8c (UInt8.ofNat ((10 + s.length) % 256)) = .int .u8 ((10 + (s.length : Int)) % 256) := (byte_mod (10 + s.length)).trans (by rw [Int.natCast_add]; rfl)
    simp only [List.map_cons, List.map_nil, e]
    rfl
  have HI := Lib.hid (info_ref s)
  have HIL := Lib.hid (infoL_len s)
  clear h1 h2 h3 hB0 hW hzW
  go_enter Tryd.func15, Tryd.ntmps15
  go_wp2_with fail
  refine (join_any _ _ 3 (10 + s.length) 3 c2 _ (textL s) _ S1.out S2.out (by omega)).mono ?_
  rintro e w3 ⟨v3, rfl, own3⟩
  rw [HI.out, HIL.out] at own3
  obtain ⟨A3, k3, rfl, sl3⟩ := own3.slice
  have B3 := Lib.hid (below_both B2.out own3.below); have S3 := Lib.hid sl3; clear own3 sl3 hcv hu8
  go_wp2_with fail
  refine (refExpand_any A A3 n c _ k3 k (infoL s) _ (HKB.out.mono B3.out) S3.out hn (by omega)).mono ?_
  rintro e w4 ⟨A4, c4, rfl, s4, b4⟩
  have S4 := Lib.hid s4; have B4 := Lib.hid (below_both B3.out b4); clear s4 b4
  go_wp2_with fail
  go_ret
  refine ⟨A4, c4, ?_, ?_, B4.out⟩
  · rw [deriveL_len]; rfl
  · rw [deriveL_len]; exact S4.out
end Go.Proofs.YtbmijjodpdbbmaaDoor
