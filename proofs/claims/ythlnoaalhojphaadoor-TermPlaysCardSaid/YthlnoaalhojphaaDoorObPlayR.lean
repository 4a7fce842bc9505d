/- The reference's table of terms: sizes, labels, texts. No condition. -/
import Derived.Test.YthlnoaalhojphaaDoorObSizesD
import Derived.Test.YthlnoaalhojphaaDoorObTermQ
import Derived.Laws.Concat
import Derived.Outline
namespace Go.Proofs.YthlnoaalhojphaaDoor
open Go.RowKit
set_option linter.unusedVariables false
def RetSz (w : World) (n : Nat) (S : List Nat) (e : Ending) (w' : World) : Prop := ∃ A c, e = .returned (.slice A n c) ∧ Sl w' A n c 1 (S.map i64n) ∧ Gr w w'
theorem small_take (T : List Nd) (j : Nat) : Small (sizesL (T.take j)) := sizesL_small _
set_option maxRecDepth 100000 in
set_option maxHeartbeats 2000000 in
theorem refSizes_any (A : Option Addr) (n c : Nat) (T : List Nd) (w : World) (h : RTb w A n c T) (hT : Parted T) (hK : Kinds T) (hn : n ≤ 1000) :
    Calls Tryd.prog 82 #[.slice A n c] w (RetSz w n (sizesL T)) := by
  have hTl : T.length = n := h.1
  have HL := Lib.hid hTl
  have HH := Lib.hid h; have HT := Lib.hid hT; have HK := Lib.hid hK
  have hc1 := h.cap; have hc2 := h.max
  clear h hT hK hTl
  go_enter Tryd.func82, Tryd.ntmps82
  go_wp2_with fail
  go_loopw [3, 4] (fun v i wr => ∃ j : Nat, j ≤ n ∧ i = .int .i64 j ∧ Own w wr 3 1 v j ((sizesL (T.take j)).map i64n)) (fun _ i _ => n - (Go.RowKit.intOf i).toNat)
  case atStart => exact ⟨0, Nat.zero_le _, rfl, Own.nil _ _ _⟩
  case round =>
    obtain ⟨j, hjn, rfl, hown⟩ := hrel
    have OW := Lib.hid hown; clear hown
    by_cases hlt : j < n
    · have t0 : decide ((j : Int) < (n : Int)) = true := decide_eq_true (by omega)
      obtain ⟨x, hx⟩ : ∃ x, T[j]? = some x := ⟨_, List.getElem?_eq_getElem (show j < T.length by rw [HL.out]; exact hlt)⟩
      have HP : Hid (∀ p ∈ x.parts, 1 ≤ p ∧ p ≤ j) := (HT.out j x hx).2
      have hm2 : x.parts.length ≤ 2 := by unfold Nd.parts; (repeat' split) <;> simp
      have HPC : Hid (Calls Tryd.prog 45 #[.slice A n c, .int .i64 ((j : Int) + 1)] wr fun e w' => RetInts wr (x.parts.map Int.ofNat) e w') := by
        have := refParts_any A n c T ((j + 1 : Nat) : Int) wr (HH.out.mono OW.out.2) HK.out
        rwa [(kindOf_succ hx).2] at this
      have HSN : Hid (sizesL (T.take (j + 1)) = sizesL (T.take j) ++ [sizeOf' (sizesL (T.take j)) x.parts]) := by
        show _ = _
        rw [← sizesL_snoc, List.take_succ_eq_append_getElem (by rw [HL.out]; exact hlt)]
        congr 2
        rw [List.getElem?_eq_getElem (by rw [HL.out]; exact hlt)] at hx
        rw [Option.some.inj hx]
      have HSL : Hid ((sizesL (T.take j)).length = j) := by show _ = _; rw [sizesL_len, List.length_take, HL.out]; omega
      have HSM := Lib.hid (small_take T j)
      clear hx
      generalize sizesL (T.take j) = S at *
      generalize hps : x.parts = ps at *
      clear hps
      go_wp2_with fail
      refine HPC.out.mono ?_
      rintro e w3 ⟨A3, c3, rfl, i3, g3, _⟩
      have O3 := Lib.hid (OW.out.mono g3); have I3 := Lib.hid i3
      have hc3 := i3.cap; have hm3 := i3.max
      obtain ⟨A9, c9, rfl, s9⟩ := OW.out.slice
      have S9 := Lib.hid (s9.mono g3)
      have hc9 := s9.cap; have hm9 := s9.max
      clear i3 g3 s9 OW
      rw [List.length_map] at hc3 ⊢
      go_wp2_with fail
      go_loopw [5, 7] (fun nn q wq => ∃ k : Nat, k ≤ ps.length ∧ q = .int .i64 k ∧ nn = .int .i64 ((sizeOf' S (ps.take k) : Nat) : Int) ∧ wq = w3) (fun _ q _ => ps.length - (Go.RowKit.intOf q).toNat)
      case atStart => exact ⟨0, Nat.zero_le _, rfl, rfl, rfl⟩
      case round =>
        obtain ⟨k, hk, rfl, rfl, rfl⟩ := hrel
        by_cases hlk : k < ps.length
        · have t1 : decide ((k : Int) < (ps.length : Int)) = true := decide_eq_true (by omega)
          obtain ⟨b3, o3, rfl, hc3'⟩ := Is.addr I3.out (by rw [List.length_map]; omega)
          obtain ⟨b9, o9, rfl, hc9'⟩ := Sl.addr S9.out (by have := HP.out _ (List.getElem_mem hlk); omega)
          have hpr := HP.out ps[k] (List.getElem_mem hlk)
          have hgd : ps.getD k 0 = ps[k] := by rw [List.getD_eq_getElem?_getD, List.getElem?_eq_getElem hlk]; rfl
          obtain ⟨p, hp⟩ : ∃ p, ps.getD k 0 = p + 1 := ⟨ps[k] - 1, by omega⟩
          have u0 := hc3' k (by rw [List.length_map]; exact hlk)
          rw [ints_parts ps k hlk, hp] at u0
          have u1 := hc9' p _ (i64n_at (by rw [HSL.out]; omega))
          have hsz := HSM.out.at p
          have hsum : Hid (sizeOf' S (ps.take (k + 1)) = min (sizeOf' S (ps.take k) + S.getD p 0) great) := by
            show _ = _
            rw [List.take_succ_eq_append_getElem hlk]
            unfold sizeOf'
            rw [List.foldl_append]
            show min (_ + S.getD (ps[k] - 1) 0) great = _
            rw [show ps[k] - 1 = p by omega]
          have hle := sizeOf'_le S (ps.take k)
          have hpj : p < j := by omega
          clear hc3' hc9' hpr hgd hp
          generalize sizeOf' S (ps.take k) = a at *
          generalize S.getD p 0 = s at *
          unfold great at hle hsz
          go_wp2_with fail
          exact ⟨⟨k + 1, by omega, by simp, by rw [hsum.out]; unfold great; congr 1; omega, trivial⟩, by simp [Go.RowKit.intOf]; omega⟩
        · obtain rfl : k = ps.length := by omega
          have t1 : decide ((ps.length : Int) < (ps.length : Int)) = false := by simp
          rw [List.take_length]
          go_wp2_with (at_builtin; go_loud (refine wpList_pushAtG (n := j) rfl _ _ 36 rfl tNums rfl O3.out _ (by simp) #[_] rfl rfl (by intro u hu; simp at hu; subst hu; rfl) (by omega) ?_); intro v1 w5 own1 tn1)
          refine ⟨⟨j + 1, by omega, by simp, ?_⟩, by simp [Go.RowKit.intOf]; omega⟩
          rw [HSN.out, List.map_append]
          exact own1
    · obtain rfl : j = n := by omega
      have t0 : decide ((j : Int) < (j : Int)) = false := by simp
      have hT : T.take j = T := List.take_of_length_le (by rw [HL.out]; exact Nat.le_refl _)
      rw [hT] at OW
      obtain ⟨A9, c9, rfl, s9⟩ := OW.out.slice
      have S9 := Lib.hid s9; clear s9
      go_wp2_with fail
      go_ret
      exact ⟨A9, c9, rfl, S9.out, OW.out.2⟩
set_option maxRecDepth 100000 in
set_option maxHeartbeats 1000000 in
theorem refSize_any (A : Option Addr) (n c : Nat) (T : List Nd) (id : Int) (w : World) (h : RTb w A n c T) (hT : Parted T) (hK : Kinds T) (hn : n ≤ 1000) :
    Calls Tryd.prog 47 #[.slice A n c, .int .i64 id] w fun e w' => e = .returned (.int .i64 (sizeT T id : Int)) ∧ Gr w w' := by
  have hl : T.length = n := h.1
  have HR := Lib.hid (refThere_any A n c id w)
  unfold sizeT
  rw [hl]
  cases ho : outside n id with
  | true =>
    rw [ho] at HR
    clear h hl
    go_enter Tryd.func47, Tryd.ntmps47
    go_wp2_with fail
    refine HR.out.mono ?_
    rintro e w1 ⟨rfl, rfl⟩
    go_wp2_with fail
    go_ret
    exact ⟨rfl, Gr.refl _⟩
  | false =>
    rw [ho] at HR
    have HS := Lib.hid (refSizes_any A n c T w h hT hK hn)
    have hin : 1 ≤ id ∧ id ≤ n := by unfold outside at ho; simp at ho; omega
    obtain ⟨k, rfl⟩ : ∃ k : Nat, id = (k : Int) + 1 := ⟨(id - 1).toNat, by omega⟩
    have hk : k < n := by omega
    have ek : ((k : Int) + 1).toNat - 1 = k := by omega
    rw [ek]
    obtain ⟨q, hq⟩ : ∃ q, q = (sizesL T).getD k 0 := ⟨_, rfl⟩
    rw [← hq]
    have HQ := Lib.hid hq
    clear hq
    have hw : IntKind.i64.wrap ((k : Int) + 1 - 1) = k := by rw [IntWalk.i64_in _ (by omega)]; omega
    have HSL : Hid ((sizesL T).length = n) := by show _ = _; rw [sizesL_len, hl]
    clear h hl hin ek ho hT hK
    go_enter Tryd.func47, Tryd.ntmps47
    go_wp2_with fail
    refine HR.out.mono ?_
    rintro e w1 ⟨rfl, h1⟩
    obtain rfl : w = w1 := h1.symm
    go_wp2_with fail
    refine HS.out.mono ?_
    rintro e w2 ⟨A2, c2, rfl, s2, g2⟩
    obtain ⟨b, o, rfl, hcc⟩ := Sl.addr s2 (by omega)
    have u0 := hcc k _ (i64n_at (by rw [HSL.out]; exact hk))
    have hc2 := s2.cap; have hm2 := s2.max
    have G2 := Lib.hid g2
    have hw2 : wrap64 (k : Int) = k := IntWalk.wrap64_in _ ⟨by omega, by omega⟩
    clear s2 hcc g2 HS
    rw [← HQ.out] at u0
    go_wp2_with fail
    go_ret
    exact ⟨rfl, G2.out⟩
/-- The reference's label is the node's own. -/
def labelR (T : List Nd) (id : Int) : ByteArray := if outside T.length id then ⟨#[]⟩ else match T[id.toNat - 1]? with
  | some x => x.s
  | none => ⟨#[]⟩
set_option maxHeartbeats 1000000 in
theorem refLabel_any (A : Option Addr) (n c : Nat) (T : List Nd) (id : Int) (w : World) (h : RTb w A n c T) :
    Calls Tryd.prog 46 #[.slice A n c, .int .i64 id] w fun e w' => e = .returned (.string (labelR T id)) ∧ w' = w := by
  have hl : T.length = n := h.1
  have hm := Nat.le_trans h.cap h.max
  have HR := Lib.hid (refThere_any A n c id w)
  unfold labelR
  rw [hl]
  cases ho : outside n id with
  | true =>
    rw [ho] at HR
    clear h hl hm
    go_enter Tryd.func46, Tryd.ntmps46
    go_wp2_with fail
    refine HR.out.mono ?_
    rintro e w1 ⟨rfl, rfl⟩
    go_wp2_with fail
    go_ret
    exact ⟨rfl, rfl⟩
  | false =>
    rw [ho] at HR
    have hin : 1 ≤ id ∧ id ≤ n := by unfold outside at ho; simp at ho; omega
    obtain ⟨k, rfl⟩ : ∃ k : Nat, id = (k : Int) + 1 := ⟨(id - 1).toNat, by omega⟩
    have hk : k < n := by omega
    obtain ⟨b, o, x, rfl, hx, _, _, _, c3, _⟩ := h.row hk
    have ek : ((k : Int) + 1).toNat - 1 = k := by omega
    rw [ek, hx]
    have hw : IntKind.i64.wrap ((k : Int) + 1 - 1) = k := by rw [IntWalk.i64_in _ (by omega)]; omega
    have hw2 : wrap64 (k : Int) = k := IntWalk.wrap64_in _ ⟨by omega, by omega⟩
    clear h hl hin ek ho
    go_enter Tryd.func46, Tryd.ntmps46
    go_wp2_with fail
    refine HR.out.mono ?_
    rintro e w1 ⟨rfl, rfl⟩
    go_wp2_with fail
    go_ret
    exact ⟨rfl, rfl⟩
/-! ### a number's digits, below a hundred -/
theorem conv_back (x : UInt8) (k : Int) (hk : (x.toNat : Int) = k) (w : World) :
    (convert 45 9 (.slice (some ⟨w.heap.size, 0, none⟩) 1 1)).run Tryd.prog (w.alloc (.cells #[.int .u8 k] 5)) = .ok (.string ⟨#[x]⟩) (w.alloc (.cells #[.int .u8 k] 5)) := by
  refine run_convert_bytes_back (P := Tryd.prog) (w.alloc (.cells #[.int .u8 k] 5)) 45 9 5 ⟨w.heap.size, 0, none⟩ 1 [x] Tryd.underlying45 Tryd.underlying5 Tryd.underlying9 ?_
  intro j hj
  obtain rfl : j = 0 := by simp at hj; exact hj
  have := (Blk.new w 5 #[.int .u8 k]).cell 0
  subst hk
  exact this
theorem dec_one : ∀ d, d < 10 → Lib.decDigits d = [UInt8.ofNat (48 + d)] := by decide +kernel
theorem dec_two : ∀ d, d < 100 → ¬ d < 10 → Lib.decDigits d = Lib.decDigits (d / 10) ++ Lib.decDigits (d % 10) := by decide +kernel
set_option maxHeartbeats 1000000 in
theorem refDigit_any (d : Nat) (w : World) (hd : d < 10) :
    Calls Tryd.prog 102 #[.int .i64 (d : Int)] w fun e w' => e = .returned (.string ⟨(Lib.decDigits d).toArray⟩) ∧ Gr w w' := by
  rw [dec_one d hd]
  obtain ⟨x, hx⟩ : ∃ x : UInt8, x = UInt8.ofNat (48 + d) := ⟨_, rfl⟩
  rw [← hx]
  have t1 : decide ((d : Int) < 0) = false := decide_eq_false (by omega)
  have t2 : decide ((d : Int) < 10) = true := decide_eq_true (by omega)
  have h8 : IntKind.u8.wrap (48 + (d : Int)) = 48 + d := by
    rw [IntWalk.u8_in _ (by omega)]
  have hcv := conv_back x (48 + (d : Int)) (by rw [hx]; simp; omega) w
  clear hx
  have hg := Gr.alloc w (.cells #[.int .u8 (48 + (d : Int))] 5)
  go_enter Tryd.func102, Tryd.ntmps102
  go_wp2
  go_ret
  exact ⟨rfl, hg⟩
set_option maxHeartbeats 1000000 in
theorem refNumber_any (d : Nat) (w : World) (hd : d < 100) :
    Calls Tryd.prog 102 #[.int .i64 (d : Int)] w fun e w' => e = .returned (.string ⟨(Lib.decDigits d).toArray⟩) ∧ Gr w w' := by
  by_cases h : d < 10
  · exact refDigit_any d w h
  have t1 : decide ((d : Int) < 0) = false := decide_eq_false (by omega)
  have t2 : decide ((d : Int) < 10) = false := decide_eq_false (by omega)
  have HA := Lib.hid (refDigit_any (d / 10) w (by omega))
  have HB := Lib.hid (fun wq => refDigit_any (d % 10) wq (by omega))
  have e1 : (((d / 10 : Nat) : Int)) = (d : Int) / 10 := by omega
  have e2 : (((d % 10 : Nat) : Int)) = (d : Int) % 10 := by omega
  rw [e1] at HA
  simp only [e2] at HB
  have HD := Lib.hid (dec_two d hd h)
  have l1 := decT_len (d / 10) (by omega)
  have l2 := decT_len (d % 10) (by omega)
  clear e1 e2
  go_enter Tryd.func102, Tryd.ntmps102
  go_wp2_with fail
  refine HA.out.mono ?_
  rintro e w1 ⟨rfl, g1⟩
  have G1 := Lib.hid g1; clear g1
  go_wp2_with fail
  refine (HB.out w1).mono ?_
  rintro e w2 ⟨rfl, g2⟩
  have G2 := Lib.hid (G1.out.trans g2); clear g2
  have hlen : ¬ 9223372036854775807 < (Lib.decDigits (d / 10)).length + (Lib.decDigits (d % 10)).length := by omega
  clear l1 l2
  go_wp2
  go_ret
  exact ⟨by rw [HD.out, ← ByteArray.mk_append_mk]; rfl, G2.out⟩
end Go.Proofs.YthlnoaalhojphaaDoor
