/- Own texts of this claim, one behind the other. No condition. -/
import Derived.Test.YtfemhhjmfckicaaGreatDoorObPkH
import Derived.Deep.DeepCutAuto
import Derived.Outline

/- Names: the reference's First: the rune with which a text begins. No condition. -/
namespace Go.Proofs.YtfemhhjmfckicaaGreatDoor
open Go.RowKit
set_option linter.unusedVariables false
theorem size_of' (l : List UInt8) : (⟨l.toArray⟩ : ByteArray).size = l.length := by simp [ByteArray.size]
theorem at_of (l : List UInt8) (s : ByteArray) (hs : s = ⟨l.toArray⟩) (k : Nat) (h : k < s.size) : ((s[k]'h).toNat : Int) = bAt l k := by
  subst hs
  unfold bAt
  have h2 : k < l.length := by rw [size_of'] at h; exact h
  show (((l.toArray)[k]'(by simpa using h2)).toNat : Int) = _
  rw [List.getD_eq_getElem?_getD, List.getElem?_eq_getElem h2]
  simp
def bndR : Nat → Nat
  | 0 => 191
  | 1 => 191
  | i + 2 => bndR (i + 1) * 64 + 63
theorem valR_le (l : List UInt8) (r0 : Nat) (h : r0 ≤ 191) : ∀ k, okR l k = true → valR l r0 k ≤ bndR k
  | 0, _ => h
  | 1, _ => h
  | i + 2, ho => by
    have ho : (okR l (i + 1) && contB (l.getD (i + 1) 0)) = true := ho
    rw [Bool.and_eq_true] at ho
    have ih := valR_le l r0 h (i + 1) ho.1
    have hc := ho.2
    unfold contB at hc
    rw [Bool.and_eq_true, decide_eq_true_eq, decide_eq_true_eq] at hc
    show valR l r0 (i + 1) * 64 + ((l.getD (i + 1) 0).toNat - 128) ≤ bndR (i + 1) * 64 + 63
    omega
theorem okR_down (l : List UInt8) (k : Nat) : ∀ m, k ≤ m → okR l m = true → okR l k = true
  | 0, h, ho => by obtain rfl : k = 0 := by omega
                   exact ho
  | 1, h, ho => by match k, h with | 0, _ => rfl | 1, _ => rfl
  | i + 2, h, ho => by
    rcases Nat.lt_or_ge k (i + 2) with hk | hk
    · have ho : (okR l (i + 1) && contB (l.getD (i + 1) 0)) = true := ho
      rw [Bool.and_eq_true] at ho
      exact okR_down l k (i + 1) (by omega) ho.1
    · obtain rfl : k = i + 2 := by omega
      exact ho
theorem leadR_le (c : Nat) (hc : c < 256) : 1 ≤ (leadR c).1 ∧ (leadR c).1 ≤ 4 ∧ (leadR c).2 ≤ 191 := by
  unfold leadR
  by_cases h1 : 240 ≤ c
  · rw [if_pos h1]; exact ⟨by simp, by simp, by show c - 240 ≤ 191; omega⟩
  rw [if_neg h1]
  by_cases h2 : 224 ≤ c
  · rw [if_pos h2]; exact ⟨by simp, by simp, by show c - 224 ≤ 191; omega⟩
  rw [if_neg h2]
  by_cases h3 : 192 ≤ c
  · rw [if_pos h3]; exact ⟨by simp, by simp, by show c - 192 ≤ 191; omega⟩
  rw [if_neg h3]; exact ⟨by simp, by simp, by show c ≤ 191; omega⟩
theorem firstR_is (l : List UInt8) (hl : 0 < l.length) : firstR l =
    (if l.length < (leadR (l.getD 0 0).toNat).1 then (0, 0) else if okR l (leadR (l.getD 0 0).toNat).1 = false then (0, 0) else if rightR (valR l (leadR (l.getD 0 0).toNat).2 (leadR (l.getD 0 0).toNat).1) = false ∨ bytesR (valR l (leadR (l.getD 0 0).toNat).2 (leadR (l.getD 0 0).toNat).1) ≠ l.take (leadR (l.getD 0 0).toNat).1 then (0, 0) else (valR l (leadR (l.getD 0 0).toNat).2 (leadR (l.getD 0 0).toNat).1, (leadR (l.getD 0 0).toNat).1)) := by
  match l, hl with
  | b :: t, _ => rfl
theorem valR_succ (l : List UInt8) (r0 k : Nat) (h : 1 ≤ k) : valR l r0 (k + 1) = valR l r0 k * 64 + ((l.getD k 0).toNat - 128) := by
  obtain ⟨k, rfl⟩ : ∃ j, k = j + 1 := ⟨k - 1, by omega⟩
  rfl
theorem okR_succ (l : List UInt8) (k : Nat) (h : 1 ≤ k) : okR l (k + 1) = (okR l k && (decide (128 ≤ (l.getD k 0).toNat) && decide ((l.getD k 0).toNat ≤ 191))) := by
  obtain ⟨k, rfl⟩ : ∃ j, k = j + 1 := ⟨k - 1, by omega⟩
  rfl
theorem bndR_le : ∀ k, k ≤ 3 → bndR k ≤ 786431
  | 0, _ => by decide
  | 1, _ => by decide
  | 2, _ => by decide
  | 3, _ => by decide
set_option maxHeartbeats 2000000 in
set_option maxRecDepth 100000 in
theorem refFirst_any (l : List UInt8) (w : World) (hl : l.length ≤ 100000) : Calls Tryz.prog 157 #[.string ⟨l.toArray⟩] w fun e w' => e = .returned (.tuple #[.int .i32 ((firstR l).1 : Int), .int .i64 ((firstR l).2 : Int)]) ∧ Gr w w' := by
  obtain ⟨s, hs⟩ : ∃ s : ByteArray, s = ⟨l.toArray⟩ := ⟨_, rfl⟩
  have hsz : s.size = l.length := by rw [hs]; exact size_of' l
  have HAT := Lib.hid (at_of l s hs)
  rw [← hs]
  obtain ⟨rn, sz, hr⟩ : ∃ rn sz, firstR l = (rn, sz) := ⟨_, _, rfl⟩
  rw [hr]
  have HR := Lib.hid hr; clear hr
  have HS := Lib.hid hs; clear hs
  show Calls _ _ _ _ fun e w' => e = .returned (.tuple #[.int .i32 (rn : Int), .int .i64 (sz : Int)]) ∧ Gr w w'
  by_cases h0 : s.size = 0
  · have hln : l = [] := List.eq_nil_of_length_eq_zero (by omega)
    have h := HR.out
    rw [hln] at h
    have hE : rn = 0 ∧ sz = 0 := by injection h with h1 h2; exact ⟨h1.symm, h2.symm⟩
    obtain ⟨rfl, rfl⟩ := hE
    clear h hln hsz
    go_enter Tryz.func157, Tryz.ntmps157
    go_wp2_with fail
    go_ret2
    exact ⟨rfl, Gr.refl w⟩
  have h0' : 0 < s.size := by omega
  have t0 : ((s.size : Int) == 0) = false := beq_eq_false_iff_ne.2 (by omega)
  have HF := Lib.hid (firstR_is l (by omega))
  have hat0 := HAT.out 0 h0'
  have hb0 : bAt l 0 = ((l.getD 0 0).toNat : Int) := rfl
  have hc256 := (l.getD 0 0).toNat_lt
  rw [hb0] at hat0
  clear hb0
  generalize (l.getD 0 0).toNat = c at *
  go_enter Tryz.func157, Tryz.ntmps157
  go_upto_if 16 with fail
  go_cut [5, 6] (fun s5 s6 wx => s5 = .int .i64 ((leadR c).1 : Int) ∧ s6 = .int .i32 ((leadR c).2 : Int) ∧ wx = w)
  case first =>
    clear hat0
    clear hsz h0' t0 h0
    by_cases h1 : 240 ≤ c
    · have hv : leadR c = (4, c - 240) := by unfold leadR; rw [if_pos h1]
      have hz : ((c - 240 : Nat) : Int) = (c : Int) - 240 := by omega
      have t1 : decide ((240 : Int) ≤ (c : Int)) = true := decide_eq_true (by omega)
      have HV := Lib.hid hv; have HZ := Lib.hid hz
      clear hv hz
      go_wp2_with fail
      go_meet
      exact ⟨by rw [HV.out]; rfl, by rw [HV.out]; exact congrArg _ HZ.out.symm, rfl⟩
    have t1 : decide ((240 : Int) ≤ (c : Int)) = false := decide_eq_false (by omega)
    by_cases h2 : 224 ≤ c
    · have hv : leadR c = (3, c - 224) := by unfold leadR; rw [if_neg h1, if_pos h2]
      have hz : ((c - 224 : Nat) : Int) = (c : Int) - 224 := by omega
      have t2 : decide ((224 : Int) ≤ (c : Int)) = true := decide_eq_true (by omega)
      have HV := Lib.hid hv; have HZ := Lib.hid hz
      clear hv hz
      go_wp2_with fail
      go_meet
      exact ⟨by rw [HV.out]; rfl, by rw [HV.out]; exact congrArg _ HZ.out.symm, rfl⟩
    have t2 : decide ((224 : Int) ≤ (c : Int)) = false := decide_eq_false (by omega)
    by_cases h3 : 192 ≤ c
    · have hv : leadR c = (2, c - 192) := by unfold leadR; rw [if_neg h1, if_neg h2, if_pos h3]
      have hz : ((c - 192 : Nat) : Int) = (c : Int) - 192 := by omega
      have t3 : decide ((192 : Int) ≤ (c : Int)) = true := decide_eq_true (by omega)
      have HV := Lib.hid hv; have HZ := Lib.hid hz
      clear hv hz
      go_wp2_with fail
      go_meet
      exact ⟨by rw [HV.out]; rfl, by rw [HV.out]; exact congrArg _ HZ.out.symm, rfl⟩
    have t3 : decide ((192 : Int) ≤ (c : Int)) = false := decide_eq_false (by omega)
    have hv : leadR c = (1, c) := by unfold leadR; rw [if_neg h1, if_neg h2, if_neg h3]
    have HV := Lib.hid hv
    clear hv
    go_wp2_with fail
    go_meet
    exact ⟨by rw [HV.out]; rfl, by rw [HV.out], rfl⟩
  case rest =>
    obtain ⟨rfl, rfl, rfl⟩ := hcut
    obtain ⟨h1, h4, hr0⟩ := leadR_le c hc256
    clear hat0 hc256
    obtain ⟨⟨sN, r0⟩, hlead⟩ : ∃ q, leadR c = q := ⟨_, rfl⟩
    rw [hlead] at HF h1 h4 hr0
    simp only [hlead]
    simp only at h1 h4 hr0
    have HF : Hid (firstR l = (if l.length < sN then (0, 0) else if okR l sN = false then (0, 0) else if rightR (valR l r0 sN) = false ∨ bytesR (valR l r0 sN) ≠ l.take sN then (0, 0) else (valR l r0 sN, sN))) := HF
    clear hlead h0 t0
    have Hzero : Hid (firstR l = (0, 0) → rn = 0 ∧ sz = 0) := fun e => by
      have h := HR.out
      rw [e] at h
      injection h with h1 h2
      exact ⟨h1.symm, h2.symm⟩
    by_cases h5 : s.size < sN
    · have hz : firstR l = (0, 0) := by rw [HF.out, if_pos (by omega)]
      obtain ⟨rfl, rfl⟩ := Hzero.out hz
      have t5 : decide ((s.size : Int) < (sN : Int)) = true := decide_eq_true (by omega)
      clear hz
      go_wp2_with fail
      go_ret2
      exact ⟨rfl, Gr.refl wc⟩
    have t5 : decide ((s.size : Int) < (sN : Int)) = false := decide_eq_false (by omega)
    go_wp2_with fail
    go_loopw [6, 7] (fun a i wr => ∃ k : Nat, 1 ≤ k ∧ k ≤ sN ∧ i = .int .i64 k ∧ a = .int .i32 (valR l r0 k) ∧ wr = wc ∧ okR l k = true) (fun _ i _ => sN - (intOf i).toNat)
    case atStart => exact ⟨1, Nat.le_refl _, h1, rfl, rfl, rfl, rfl⟩
    case round =>
      obtain ⟨k, hk1, hk2, rfl, rfl, rfl, hok⟩ := hrel
      have HOK := Lib.hid hok; clear hok
      by_cases hlt : k < sN
      · have hat := HAT.out k (by omega)
        have hks : k < s.size := by omega
        have hb0 : bAt l k = ((l.getD k 0).toNat : Int) := rfl
        rw [hb0] at hat
        have hy := (l.getD k 0).toNat_lt
        have hle := valR_le l r0 hr0 k HOK.out
        have hbd := bndR_le k (by omega)
        have HV := Lib.hid (valR_succ l r0 k hk1)
        have HO := Lib.hid (okR_succ l k hk1)
        clear hb0
        generalize (l.getD k 0).toNat = y at *
        generalize hvk : valR l r0 k = v at *
        clear hvk
        have hv : v ≤ 786431 := by omega
        clear hle hbd
        by_cases hy1 : y < 128
        · have t6 : decide ((y : Int) < 128) = true := decide_eq_true (by omega)
          have hz : firstR l = (0, 0) := by
            rw [HF.out, if_neg (by omega), if_pos]
            cases hq : okR l sN with
            | false => rfl
            | true =>
              have := okR_down l (k + 1) sN (by omega) hq
              rw [HO.out, decide_eq_false (show ¬ 128 ≤ y by omega), Bool.false_and, Bool.and_false] at this
              cases this
          obtain ⟨rfl, rfl⟩ := Hzero.out hz
          clear hz
          go_wp2_with fail
          go_ret2
          exact ⟨rfl, Gr.refl wr⟩
        have t6 : decide ((y : Int) < 128) = false := decide_eq_false (by omega)
        by_cases hy2 : 191 < y
        · have t7 : decide ((191 : Int) < (y : Int)) = true := decide_eq_true (by omega)
          have hz : firstR l = (0, 0) := by
            rw [HF.out, if_neg (by omega), if_pos]
            cases hq : okR l sN with
            | false => rfl
            | true =>
              have := okR_down l (k + 1) sN (by omega) hq
              rw [HO.out, decide_eq_false (show ¬ y ≤ 191 by omega), Bool.and_false, Bool.and_false] at this
              cases this
          obtain ⟨rfl, rfl⟩ := Hzero.out hz
          clear hz
          go_wp2_with fail
          go_ret2
          exact ⟨rfl, Gr.refl wr⟩
        have t7 : decide ((191 : Int) < (y : Int)) = false := decide_eq_false (by omega)
        have HW : Hid ((v : Int) * 64 + (y : Int) - 128 = ((valR l r0 (k + 1) : Nat) : Int)) := by
          show _ = _
          rw [HV.out]
          omega
        have HOK2 : Hid (okR l (k + 1) = true) := by
          show _ = _
          rw [HO.out, HOK.out, decide_eq_true (show 128 ≤ y by omega), decide_eq_true (show y ≤ 191 by omega)]
          rfl
        go_wp2_with fail
        go_roundw
        case rel => exact ⟨k + 1, by omega, by omega, rfl, congrArg _ HW.out, trivial, HOK2.out⟩
        case measure =>
          show sN - ((k : Int) + 1).toNat < sN - (k : Int).toNat
          omega
      · obtain rfl : k = sN := by omega
        have hv4 : valR l r0 k ≤ 50331647 := by
          have h := valR_le l r0 hr0 k HOK.out
          match k, h, h4 with
          | 0, h, _ => exact Nat.le_trans h (by decide)
          | 1, h, _ => exact Nat.le_trans h (by decide)
          | 2, h, _ => exact Nat.le_trans h (by decide)
          | 3, h, _ => exact Nat.le_trans h (by decide)
          | 4, h, _ => exact Nat.le_trans h (by decide)
        have HF3 : Hid (firstR l = if rightR (valR l r0 k) = false ∨ bytesR (valR l r0 k) ≠ l.take k then (0, 0) else (valR l r0 k, k)) := by
          show _ = _
          rw [HF.out, if_neg (by omega), if_neg (by rw [HOK.out]; decide)]
        clear HF
        generalize valR l r0 k = v at *
        have hrg := refRight02_any v
        cases hrv : rightR v with
        | false =>
          rw [hrv] at hrg
          have HRG := Lib.hid hrg
          have hz : firstR l = (0, 0) := by rw [HF3.out, if_pos (.inl hrv)]
          obtain ⟨rfl, rfl⟩ := Hzero.out hz
          clear hz hrv hrg
          go_upto_region 23 with fail
          refine wp_region_grow (by kernel_rfl) [0, 1, 3, 7, 15, 31, 63, 15, 15, 399, 1023, 2047] [.p 0, .c 1, .p 2, .p 3, .p 4, .p 7, .p 8, .p 9, .c 5, .q 6, .p 10, .p 11] (by kernel_rfl) (trivial) ?_
          refine wpG_pe rfl rfl ?_
          apply Exists.intro
          refine ⟨fun wq => ?_, ?_⟩
          · unfold plainAt
            go_simp
            first | exact rfl | exact ⟨rfl, rfl⟩
          go_simp
          refine wpG_c rfl rfl ?_
          intro w3 g3 K hK
          go_simp
          go_at_call 180
          refine (HRG.out w3).mono ?_
          rintro e wn ⟨rfl, h1⟩
          subst h1; refine hK _ _ (Gr.refl _) ?_; have G3 := Lib.hid ((Gr.drew _).trans g3); clear g3 hK
          go_simp
          refine wpG_pe rfl rfl ?_
          apply Exists.intro
          refine ⟨fun wq => ?_, ?_⟩
          · unfold plainAt
            go_simp
            first | exact rfl | exact ⟨rfl, rfl⟩
          go_simp
          refine wpG_pe rfl rfl ?_
          apply Exists.intro
          refine ⟨fun wq => ?_, ?_⟩
          · unfold plainAt
            go_simp
            first | exact rfl | exact ⟨rfl, rfl⟩
          go_simp
          first | refine wpG_skip_p rfl rfl ?_ | refine wpG_skip_q rfl rfl ?_ | refine wpG_skip_c rfl rfl ?_
          go_simp
          first | refine wpG_skip_p rfl rfl ?_ | refine wpG_skip_q rfl rfl ?_ | refine wpG_skip_c rfl rfl ?_
          go_simp
          first | refine wpG_skip_p rfl rfl ?_ | refine wpG_skip_q rfl rfl ?_ | refine wpG_skip_c rfl rfl ?_
          go_simp
          first | refine wpG_skip_p rfl rfl ?_ | refine wpG_skip_q rfl rfl ?_ | refine wpG_skip_c rfl rfl ?_
          go_simp
          first | refine wpG_skip_p rfl rfl ?_ | refine wpG_skip_q rfl rfl ?_ | refine wpG_skip_c rfl rfl ?_
          go_simp
          first | refine wpG_skip_p rfl rfl ?_ | refine wpG_skip_q rfl rfl ?_ | refine wpG_skip_c rfl rfl ?_
          go_simp
          first | refine wpG_skip_p rfl rfl ?_ | refine wpG_skip_q rfl rfl ?_ | refine wpG_skip_c rfl rfl ?_
          go_simp
          refine wpG_pe rfl rfl ?_
          apply Exists.intro
          refine ⟨fun wq => ?_, ?_⟩
          · unfold plainAt
            go_simp
            first | exact rfl | exact ⟨rfl, rfl⟩
          go_simp
          refine wpG_nil ?_
          intro w4 g4
          have G4 := Lib.hid (G3.out.trans g4); clear g4
          go_wp2_with fail
          go_ret2
          exact ⟨rfl, G4.out⟩
        | true =>
          rw [hrv] at hrg
          have HRG := Lib.hid hrg
          have hr11 : v ≤ 1114111 := by
            unfold rightR at hrv
            rw [Bool.and_eq_true, decide_eq_true_eq] at hrv
            exact hrv.1
          have HBY := Lib.hid (refBytes02_any v hr11)
          have hks : k ≤ l.length := by omega
          go_upto_region 23 with fail
          refine wp_region_grow (by kernel_rfl) [0, 1, 3, 7, 15, 31, 63, 15, 15, 399, 1023, 2047] [.p 0, .c 1, .p 2, .p 3, .p 4, .p 7, .p 8, .p 9, .c 5, .q 6, .p 10, .p 11] (by kernel_rfl) (trivial) ?_
          refine wpG_pe rfl rfl ?_
          apply Exists.intro
          refine ⟨fun wq => ?_, ?_⟩
          · unfold plainAt
            go_simp
            first | exact rfl | exact ⟨rfl, rfl⟩
          go_simp
          refine wpG_c rfl rfl ?_
          intro w3 g3 K hK
          go_simp
          go_at_call 180
          refine (HRG.out w3).mono ?_
          rintro e wn ⟨rfl, h1⟩
          subst h1; refine hK _ _ (Gr.refl _) ?_; have G3 := Lib.hid ((Gr.drew _).trans g3); clear g3 hK
          go_simp
          refine wpG_pe rfl rfl ?_
          apply Exists.intro
          refine ⟨fun wq => ?_, ?_⟩
          · unfold plainAt
            go_simp
            first | exact rfl | exact ⟨rfl, rfl⟩
          go_simp
          refine wpG_pe rfl rfl ?_
          apply Exists.intro
          refine ⟨fun wq => ?_, ?_⟩
          · unfold plainAt
            go_simp
            first | exact rfl | exact ⟨rfl, rfl⟩
          go_simp
          refine wpG_pe rfl rfl ?_
          apply Exists.intro
          refine ⟨fun wq => ?_, ?_⟩
          · unfold plainAt
            go_simp
            first | exact rfl | exact ⟨rfl, rfl⟩
          go_simp
          refine wpG_pe rfl rfl ?_
          apply Exists.intro
          refine ⟨fun wq => ?_, ?_⟩
          · unfold plainAt
            go_simp
            first | exact rfl | exact ⟨rfl, rfl⟩
          go_simp
          refine wpG_pe rfl rfl ?_
          apply Exists.intro
          refine ⟨fun wq => ?_, ?_⟩
          · unfold plainAt
            go_simp
            first | exact rfl | exact ⟨rfl, rfl⟩
          go_simp
          refine wpG_pe rfl rfl ?_
          apply Exists.intro
          refine ⟨fun wq => ?_, ?_⟩
          · unfold plainAt
            go_simp
            first | exact rfl | exact ⟨rfl, rfl⟩
          go_simp
          refine wpG_c rfl rfl ?_
          intro w5 g5 K hK
          go_simp
          go_at_call 181
          refine (HBY.out w5).mono ?_
          rintro e wn ⟨vb, rfl, ob⟩
          obtain ⟨Ab, cb, rfl, sb⟩ := ob.slice; refine hK _ _ ob.below ?_; have G5 := Lib.hid ((G3.out.trans g5).trans ob.below); have SB := Lib.hid sb; clear g5 ob sb hK
          go_simp
          refine wpG_qe rfl rfl ?_
          apply Exists.intro
          refine ⟨fun wq hq => ?_, ?_⟩
          · have hcv := run_bytes_string Tryz.underlying30 Tryz.underlying5 Tryz.underlying9 (Sl.mono SB.out hq)
            unfold plainAt
            go_simp
            first | exact rfl | exact ⟨rfl, rfl⟩
          go_simp
          have HX : Hid (s.extract 0 k = ⟨(l.take k).toArray⟩) := by
            show _ = _
            rw [HS.out]
            apply ByteArray.ext
            simp [ByteArray.extract, ByteArray.copySlice]
          have HT : Hid ((s.extract 0 k).toList = l.take k) := by
            show _ = _
            rw [ByteArray.toList_eq, HX.out]
          by_cases hq : bytesR v = l.take k
          · have e2 : (bytesR v == (s.extract 0 k).toList) = true := by rw [HT.out, hq]; simp
            have hz : rn = v ∧ sz = k := by
              have h := HF3.out
              rw [if_neg (by rintro (e | e); (rw [hrv] at e; cases e); exact e hq), HR.out] at h
              injection h with h1 h2
              exact ⟨h1, h2⟩
            obtain ⟨rfl, rfl⟩ := hz
            clear hq
            refine wpG_pe rfl rfl ?_
            apply Exists.intro
            refine ⟨fun wq => ?_, ?_⟩
            · unfold plainAt
              go_simp
              first | exact rfl | exact ⟨rfl, rfl⟩
            go_simp
            refine wpG_pe rfl rfl ?_
            apply Exists.intro
            refine ⟨fun wq => ?_, ?_⟩
            · unfold plainAt
              go_simp
              first | exact rfl | exact ⟨rfl, rfl⟩
            go_simp
            refine wpG_nil ?_
            intro w4 g4
            have G4 := Lib.hid (G5.out.trans g4); clear g4
            go_wp2_with fail
            go_ret2
            exact ⟨rfl, G4.out⟩
          · have e2 : (bytesR v == (s.extract 0 k).toList) = false := by rw [HT.out]; exact beq_eq_false_iff_ne.2 hq
            have hz : firstR l = (0, 0) := by rw [HF3.out, if_pos (.inr hq)]
            obtain ⟨rfl, rfl⟩ := Hzero.out hz
            clear hz hq
            refine wpG_pe rfl rfl ?_
            apply Exists.intro
            refine ⟨fun wq => ?_, ?_⟩
            · unfold plainAt
              go_simp
              first | exact rfl | exact ⟨rfl, rfl⟩
            go_simp
            refine wpG_pe rfl rfl ?_
            apply Exists.intro
            refine ⟨fun wq => ?_, ?_⟩
            · unfold plainAt
              go_simp
              first | exact rfl | exact ⟨rfl, rfl⟩
            go_simp
            refine wpG_nil ?_
            intro w4 g4
            have G4 := Lib.hid (G5.out.trans g4); clear g4
            go_wp2_with fail
            go_ret2
            exact ⟨rfl, G4.out⟩
end Go.Proofs.YtfemhhjmfckicaaGreatDoor
