/- Own texts of this claim, one behind the other. No condition. -/
import Derived.Test.YtadenlhnfkccaaaGreatDoorObPkA
import Derived.Test.YtadenlhnfkccaaaGreatDoorObPkB
import Derived.Deep.DeepCutAuto
import Derived.Outline
import Derived.Lib.IndexLaws
import Derived.Lib.Join
import Derived.Lib.SplitLaws
import Derived.Lib.CountLaws
import Derived.Lib.ItoaNum

/- Names: the reference's First: the rune with which a text begins. No condition. -/
namespace Go.Proofs.YtadenlhnfkccaaaGreatDoor
open Go.RowKit
set_option linter.unusedVariables false
theorem size_of' (l : List UInt8) : (⟨l.toArray⟩ : ByteArray).size = l.length := by simp [ByteArray.size]
theorem at_of (l : List UInt8) (s : ByteArray) (hs : s = ⟨l.toArray⟩) (k : Nat) (h : k < s.size) : ((s[k]'h).toNat : Int) = bAt l k := by
  subst hs
  unfold bAt
  have h2 : k < l.length := by rw [size_of'] at h; exact h
  show (((l.toArray)[k]'(by simpa using h2)).toNat : Int) = _
  rw [List.getD_eq_getElem?_getD, List.getElem?_eq_getElem h2]
  simp
def bndR : Nat → Nat
  | 0 => 191
  | 1 => 191
  | i + 2 => bndR (i + 1) * 64 + 63
theorem valR_le (l : List UInt8) (r0 : Nat) (h : r0 ≤ 191) : ∀ k, okR l k = true → valR l r0 k ≤ bndR k
  | 0, _ => h
  | 1, _ => h
  | i + 2, ho => by
    have ho : (okR l (i + 1) && contB (l.getD (i + 1) 0)) = true := ho
    rw [Bool.and_eq_true] at ho
    have ih := valR_le l r0 h (i + 1) ho.1
    have hc := ho.2
    unfold contB at hc
    rw [Bool.and_eq_true, decide_eq_true_eq, decide_eq_true_eq] at hc
    show valR l r0 (i + 1) * 64 + ((l.getD (i + 1) 0).toNat - 128) ≤ bndR (i + 1) * 64 + 63
    omega
theorem okR_down (l : List UInt8) (k : Nat) : ∀ m, k ≤ m → okR l m = true → okR l k = true
  | 0, h, ho => by obtain rfl : k = 0 := by omega
                   exact ho
  | 1, h, ho => by match k, h with | 0, _ => rfl | 1, _ => rfl
  | i + 2, h, ho => by
    rcases Nat.lt_or_ge k (i + 2) with hk | hk
    · have ho : (okR l (i + 1) && contB (l.getD (i + 1) 0)) = true := ho
      rw [Bool.and_eq_true] at ho
      exact okR_down l k (i + 1) (by omega) ho.1
    · obtain rfl : k = i + 2 := by omega
      exact ho
theorem leadR_le (c : Nat) (hc : c < 256) : 1 ≤ (leadR c).1 ∧ (leadR c).1 ≤ 4 ∧ (leadR c).2 ≤ 191 := by
  unfold leadR
  by_cases h1 : 240 ≤ c
  · rw [if_pos h1]; exact ⟨by simp, by simp, by show c - 240 ≤ 191; omega⟩
  rw [if_neg h1]
  by_cases h2 : 224 ≤ c
  · rw [if_pos h2]; exact ⟨by simp, by simp, by show c - 224 ≤ 191; omega⟩
  rw [if_neg h2]
  by_cases h3 : 192 ≤ c
  · rw [if_pos h3]; exact ⟨by simp, by simp, by show c - 192 ≤ 191; omega⟩
  rw [if_neg h3]; exact ⟨by simp, by simp, by show c ≤ 191; omega⟩
theorem firstR_is (l : List UInt8) (hl : 0 < l.length) : firstR l =
    (if l.length < (leadR (l.getD 0 0).toNat).1 then (0, 0) else if okR l (leadR (l.getD 0 0).toNat).1 = false then (0, 0) else if rightR (valR l (leadR (l.getD 0 0).toNat).2 (leadR (l.getD 0 0).toNat).1) = false ∨ bytesR (valR l (leadR (l.getD 0 0).toNat).2 (leadR (l.getD 0 0).toNat).1) ≠ l.take (leadR (l.getD 0 0).toNat).1 then (0, 0) else (valR l (leadR (l.getD 0 0).toNat).2 (leadR (l.getD 0 0).toNat).1, (leadR (l.getD 0 0).toNat).1)) := by
  match l, hl with
  | b :: t, _ => rfl
theorem valR_succ (l : List UInt8) (r0 k : Nat) (h : 1 ≤ k) : valR l r0 (k + 1) = valR l r0 k * 64 + ((l.getD k 0).toNat - 128) := by
  obtain ⟨k, rfl⟩ : ∃ j, k = j + 1 := ⟨k - 1, by omega⟩
  rfl
theorem okR_succ (l : List UInt8) (k : Nat) (h : 1 ≤ k) : okR l (k + 1) = (okR l k && (decide (128 ≤ (l.getD k 0).toNat) && decide ((l.getD k 0).toNat ≤ 191))) := by
  obtain ⟨k, rfl⟩ : ∃ j, k = j + 1 := ⟨k - 1, by omega⟩
  rfl
theorem bndR_le : ∀ k, k ≤ 3 → bndR k ≤ 786431
  | 0, _ => by decide
  | 1, _ => by decide
  | 2, _ => by decide
  | 3, _ => by decide
set_option maxHeartbeats 2000000 in
set_option maxRecDepth 100000 in
theorem refFirst_any (l : List UInt8) (w : World) (hl : l.length ≤ 100000) : Calls Tryz.prog 86 #[.string ⟨l.toArray⟩] w fun e w' => e = .returned (.tuple #[.int .i32 ((firstR l).1 : Int), .int .i64 ((firstR l).2 : Int)]) ∧ Gr w w' := by
  obtain ⟨s, hs⟩ : ∃ s : ByteArray, s = ⟨l.toArray⟩ := ⟨_, rfl⟩
  have hsz : s.size = l.length := by rw [hs]; exact size_of' l
  have HAT := Lib.hid (at_of l s hs)
  rw [← hs]
  obtain ⟨rn, sz, hr⟩ : ∃ rn sz, firstR l = (rn, sz) := ⟨_, _, rfl⟩
  rw [hr]
  have HR := Lib.hid hr; clear hr
  have HS := Lib.hid hs; clear hs
  show Calls _ _ _ _ fun e w' => e = .returned (.tuple #[.int .i32 (rn : Int), .int .i64 (sz : Int)]) ∧ Gr w w'
  by_cases h0 : s.size = 0
  · have hln : l = [] := List.eq_nil_of_length_eq_zero (by omega)
    have h := HR.out
    rw [hln] at h
    have hE : rn = 0 ∧ sz = 0 := by injection h with h1 h2; exact ⟨h1.symm, h2.symm⟩
    obtain ⟨rfl, rfl⟩ := hE
    clear h hln hsz
    go_enter Tryz.func86, Tryz.ntmps86
    go_wp2_with fail
    go_ret2
    exact ⟨rfl, Gr.refl w⟩
  have h0' : 0 < s.size := by omega
  have t0 : ((s.size : Int) == 0) = false := beq_eq_false_iff_ne.2 (by omega)
  have HF := Lib.hid (firstR_is l (by omega))
  have hat0 := HAT.out 0 h0'
  have hb0 : bAt l 0 = ((l.getD 0 0).toNat : Int) := rfl
  have hc256 := (l.getD 0 0).toNat_lt
  rw [hb0] at hat0
  clear hb0
  generalize (l.getD 0 0).toNat = c at *
  go_enter Tryz.func86, Tryz.ntmps86
  go_upto_if 16 with fail
  go_cut [5, 6] (fun s5 s6 wx => s5 = .int .i64 ((leadR c).1 : Int) ∧ s6 = .int .i32 ((leadR c).2 : Int) ∧ wx = w)
  case first =>
    clear hat0
    clear hsz h0' t0 h0
    by_cases h1 : 240 ≤ c
    · have hv : leadR c = (4, c - 240) := by unfold leadR; rw [if_pos h1]
      have hz : ((c - 240 : Nat) : Int) = (c : Int) - 240 := by omega
      have t1 : decide ((240 : Int) ≤ (c : Int)) = true := decide_eq_true (by omega)
      have HV := Lib.hid hv; have HZ := Lib.hid hz
      clear hv hz
      go_wp2_with fail
      go_meet
      exact ⟨by rw [HV.out]; rfl, by rw [HV.out]; exact congrArg _ HZ.out.symm, rfl⟩
    have t1 : decide ((240 : Int) ≤ (c : Int)) = false := decide_eq_false (by omega)
    by_cases h2 : 224 ≤ c
    · have hv : leadR c = (3, c - 224) := by unfold leadR; rw [if_neg h1, if_pos h2]
      have hz : ((c - 224 : Nat) : Int) = (c : Int) - 224 := by omega
      have t2 : decide ((224 : Int) ≤ (c : Int)) = true := decide_eq_true (by omega)
      have HV := Lib.hid hv; have HZ := Lib.hid hz
      clear hv hz
      go_wp2_with fail
      go_meet
      exact ⟨by rw [HV.out]; rfl, by rw [HV.out]; exact congrArg _ HZ.out.symm, rfl⟩
    have t2 : decide ((224 : Int) ≤ (c : Int)) = false := decide_eq_false (by omega)
    by_cases h3 : 192 ≤ c
    · have hv : leadR c = (2, c - 192) := by unfold leadR; rw [if_neg h1, if_neg h2, if_pos h3]
      have hz : ((c - 192 : Nat) : Int) = (c : Int) - 192 := by omega
      have t3 : decide ((192 : Int) ≤ (c : Int)) = true := decide_eq_true (by omega)
      have HV := Lib.hid hv; have HZ := Lib.hid hz
      clear hv hz
      go_wp2_with fail
      go_meet
      exact ⟨by rw [HV.out]; rfl, by rw [HV.out]; exact congrArg _ HZ.out.symm, rfl⟩
    have t3 : decide ((192 : Int) ≤ (c : Int)) = false := decide_eq_false (by omega)
    have hv : leadR c = (1, c) := by unfold leadR; rw [if_neg h1, if_neg h2, if_neg h3]
    have HV := Lib.hid hv
    clear hv
    go_wp2_with fail
    go_meet
    exact ⟨by rw [HV.out]; rfl, by rw [HV.out], rfl⟩
  case rest =>
    obtain ⟨rfl, rfl, rfl⟩ := hcut
    obtain ⟨h1, h4, hr0⟩ := leadR_le c hc256
    clear hat0 hc256
    obtain ⟨⟨sN, r0⟩, hlead⟩ : ∃ q, leadR c = q := ⟨_, rfl⟩
    rw [hlead] at HF h1 h4 hr0
    simp only [hlead]
    simp only at h1 h4 hr0
    have HF : Hid (firstR l = (if l.length < sN then (0, 0) else if okR l sN = false then (0, 0) else if rightR (valR l r0 sN) = false ∨ bytesR (valR l r0 sN) ≠ l.take sN then (0, 0) else (valR l r0 sN, sN))) := HF
    clear hlead h0 t0
    have Hzero : Hid (firstR l = (0, 0) → rn = 0 ∧ sz = 0) := fun e => by
      have h := HR.out
      rw [e] at h
      injection h with h1 h2
      exact ⟨h1.symm, h2.symm⟩
    by_cases h5 : s.size < sN
    · have hz : firstR l = (0, 0) := by rw [HF.out, if_pos (by omega)]
      obtain ⟨rfl, rfl⟩ := Hzero.out hz
      have t5 : decide ((s.size : Int) < (sN : Int)) = true := decide_eq_true (by omega)
      clear hz
      go_wp2_with fail
      go_ret2
      exact ⟨rfl, Gr.refl wc⟩
    have t5 : decide ((s.size : Int) < (sN : Int)) = false := decide_eq_false (by omega)
    go_wp2_with fail
    go_loopw [6, 7] (fun a i wr => ∃ k : Nat, 1 ≤ k ∧ k ≤ sN ∧ i = .int .i64 k ∧ a = .int .i32 (valR l r0 k) ∧ wr = wc ∧ okR l k = true) (fun _ i _ => sN - (intOf i).toNat)
    case atStart => exact ⟨1, Nat.le_refl _, h1, rfl, rfl, rfl, rfl⟩
    case round =>
      obtain ⟨k, hk1, hk2, rfl, rfl, rfl, hok⟩ := hrel
      have HOK := Lib.hid hok; clear hok
      by_cases hlt : k < sN
      · have hat := HAT.out k (by omega)
        have hks : k < s.size := by omega
        have hb0 : bAt l k = ((l.getD k 0).toNat : Int) := rfl
        rw [hb0] at hat
        have hy := (l.getD k 0).toNat_lt
        have hle := valR_le l r0 hr0 k HOK.out
        have hbd := bndR_le k (by omega)
        have HV := Lib.hid (valR_succ l r0 k hk1)
        have HO := Lib.hid (okR_succ l k hk1)
        clear hb0
        generalize (l.getD k 0).toNat = y at *
        generalize hvk : valR l r0 k = v at *
        clear hvk
        have hv : v ≤ 786431 := by omega
        clear hle hbd
        by_cases hy1 : y < 128
        · have t6 : decide ((y : Int) < 128) = true := decide_eq_true (by omega)
          have hz : firstR l = (0, 0) := by
            rw [HF.out, if_neg (by omega), if_pos]
            cases hq : okR l sN with
            | false => rfl
            | true =>
              have := okR_down l (k + 1) sN (by omega) hq
              rw [HO.out, decide_eq_false (show ¬ 128 ≤ y by omega), Bool.false_and, Bool.and_false] at this
              cases this
          obtain ⟨rfl, rfl⟩ := Hzero.out hz
          clear hz
          go_wp2_with fail
          go_ret2
          exact ⟨rfl, Gr.refl wr⟩
        have t6 : decide ((y : Int) < 128) = false := decide_eq_false (by omega)
        by_cases hy2 : 191 < y
        · have t7 : decide ((191 : Int) < (y : Int)) = true := decide_eq_true (by omega)
          have hz : firstR l = (0, 0) := by
            rw [HF.out, if_neg (by omega), if_pos]
            cases hq : okR l sN with
            | false => rfl
            | true =>
              have := okR_down l (k + 1) sN (by omega) hq
              rw [HO.out, decide_eq_false (show ¬ y ≤ 191 by omega), Bool.and_false, Bool.and_false] at this
              cases this
          obtain ⟨rfl, rfl⟩ := Hzero.out hz
          clear hz
          go_wp2_with fail
          go_ret2
          exact ⟨rfl, Gr.refl wr⟩
        have t7 : decide ((191 : Int) < (y : Int)) = false := decide_eq_false (by omega)
        have HW : Hid ((v : Int) * 64 + (y : Int) - 128 = ((valR l r0 (k + 1) : Nat) : Int)) := by
          show _ = _
          rw [HV.out]
          omega
        have HOK2 : Hid (okR l (k + 1) = true) := by
          show _ = _
          rw [HO.out, HOK.out, decide_eq_true (show 128 ≤ y by omega), decide_eq_true (show y ≤ 191 by omega)]
          rfl
        go_wp2_with fail
        go_roundw
        case rel => exact ⟨k + 1, by omega, by omega, rfl, congrArg _ HW.out, trivial, HOK2.out⟩
        case measure =>
          show sN - ((k : Int) + 1).toNat < sN - (k : Int).toNat
          omega
      · obtain rfl : k = sN := by omega
        have hv4 : valR l r0 k ≤ 50331647 := by
          have h := valR_le l r0 hr0 k HOK.out
          match k, h, h4 with
          | 0, h, _ => exact Nat.le_trans h (by decide)
          | 1, h, _ => exact Nat.le_trans h (by decide)
          | 2, h, _ => exact Nat.le_trans h (by decide)
          | 3, h, _ => exact Nat.le_trans h (by decide)
          | 4, h, _ => exact Nat.le_trans h (by decide)
        have HF3 : Hid (firstR l = if rightR (valR l r0 k) = false ∨ bytesR (valR l r0 k) ≠ l.take k then (0, 0) else (valR l r0 k, k)) := by
          show _ = _
          rw [HF.out, if_neg (by omega), if_neg (by rw [HOK.out]; decide)]
        clear HF
        generalize valR l r0 k = v at *
        have hrg := refRight02_any v
        cases hrv : rightR v with
        | false =>
          rw [hrv] at hrg
          have HRG := Lib.hid hrg
          have hz : firstR l = (0, 0) := by rw [HF3.out, if_pos (.inl hrv)]
          obtain ⟨rfl, rfl⟩ := Hzero.out hz
          clear hz hrv hrg
          go_upto_region 23 with fail
          refine wp_region_grow (by kernel_rfl) [0, 1, 3, 7, 15, 31, 63, 15, 15, 399, 1023, 2047] [.p 0, .c 1, .p 2, .p 3, .p 4, .p 7, .p 8, .p 9, .c 5, .q 6, .p 10, .p 11] (by kernel_rfl) (trivial) ?_
          refine wpG_pe rfl rfl ?_
          apply Exists.intro
          refine ⟨fun wq => ?_, ?_⟩
          · unfold plainAt
            go_simp
            first | exact rfl | exact ⟨rfl, rfl⟩
          go_simp
          refine wpG_c rfl rfl ?_
          intro w3 g3 K hK
          go_simp
          go_at_call 103
          refine (HRG.out w3).mono ?_
          rintro e wn ⟨rfl, h1⟩
          subst h1; refine hK _ _ (Gr.refl _) ?_; have G3 := Lib.hid ((Gr.drew _).trans g3); clear g3 hK
          go_simp
          refine wpG_pe rfl rfl ?_
          apply Exists.intro
          refine ⟨fun wq => ?_, ?_⟩
          · unfold plainAt
            go_simp
            first | exact rfl | exact ⟨rfl, rfl⟩
          go_simp
          refine wpG_pe rfl rfl ?_
          apply Exists.intro
          refine ⟨fun wq => ?_, ?_⟩
          · unfold plainAt
            go_simp
            first | exact rfl | exact ⟨rfl, rfl⟩
          go_simp
          first | refine wpG_skip_p rfl rfl ?_ | refine wpG_skip_q rfl rfl ?_ | refine wpG_skip_c rfl rfl ?_
          go_simp
          first | refine wpG_skip_p rfl rfl ?_ | refine wpG_skip_q rfl rfl ?_ | refine wpG_skip_c rfl rfl ?_
          go_simp
          first | refine wpG_skip_p rfl rfl ?_ | refine wpG_skip_q rfl rfl ?_ | refine wpG_skip_c rfl rfl ?_
          go_simp
          first | refine wpG_skip_p rfl rfl ?_ | refine wpG_skip_q rfl rfl ?_ | refine wpG_skip_c rfl rfl ?_
          go_simp
          first | refine wpG_skip_p rfl rfl ?_ | refine wpG_skip_q rfl rfl ?_ | refine wpG_skip_c rfl rfl ?_
          go_simp
          first | refine wpG_skip_p rfl rfl ?_ | refine wpG_skip_q rfl rfl ?_ | refine wpG_skip_c rfl rfl ?_
          go_simp
          first | refine wpG_skip_p rfl rfl ?_ | refine wpG_skip_q rfl rfl ?_ | refine wpG_skip_c rfl rfl ?_
          go_simp
          refine wpG_pe rfl rfl ?_
          apply Exists.intro
          refine ⟨fun wq => ?_, ?_⟩
          · unfold plainAt
            go_simp
            first | exact rfl | exact ⟨rfl, rfl⟩
          go_simp
          refine wpG_nil ?_
          intro w4 g4
          have G4 := Lib.hid (G3.out.trans g4); clear g4
          go_wp2_with fail
          go_ret2
          exact ⟨rfl, G4.out⟩
        | true =>
          rw [hrv] at hrg
          have HRG := Lib.hid hrg
          have hr11 : v ≤ 1114111 := by
            unfold rightR at hrv
            rw [Bool.and_eq_true, decide_eq_true_eq] at hrv
            exact hrv.1
          have HBY := Lib.hid (refBytes02_any v hr11)
          have hks : k ≤ l.length := by omega
          go_upto_region 23 with fail
          refine wp_region_grow (by kernel_rfl) [0, 1, 3, 7, 15, 31, 63, 15, 15, 399, 1023, 2047] [.p 0, .c 1, .p 2, .p 3, .p 4, .p 7, .p 8, .p 9, .c 5, .q 6, .p 10, .p 11] (by kernel_rfl) (trivial) ?_
          refine wpG_pe rfl rfl ?_
          apply Exists.intro
          refine ⟨fun wq => ?_, ?_⟩
          · unfold plainAt
            go_simp
            first | exact rfl | exact ⟨rfl, rfl⟩
          go_simp
          refine wpG_c rfl rfl ?_
          intro w3 g3 K hK
          go_simp
          go_at_call 103
          refine (HRG.out w3).mono ?_
          rintro e wn ⟨rfl, h1⟩
          subst h1; refine hK _ _ (Gr.refl _) ?_; have G3 := Lib.hid ((Gr.drew _).trans g3); clear g3 hK
          go_simp
          refine wpG_pe rfl rfl ?_
          apply Exists.intro
          refine ⟨fun wq => ?_, ?_⟩
          · unfold plainAt
            go_simp
            first | exact rfl | exact ⟨rfl, rfl⟩
          go_simp
          refine wpG_pe rfl rfl ?_
          apply Exists.intro
          refine ⟨fun wq => ?_, ?_⟩
          · unfold plainAt
            go_simp
            first | exact rfl | exact ⟨rfl, rfl⟩
          go_simp
          refine wpG_pe rfl rfl ?_
          apply Exists.intro
          refine ⟨fun wq => ?_, ?_⟩
          · unfold plainAt
            go_simp
            first | exact rfl | exact ⟨rfl, rfl⟩
          go_simp
          refine wpG_pe rfl rfl ?_
          apply Exists.intro
          refine ⟨fun wq => ?_, ?_⟩
          · unfold plainAt
            go_simp
            first | exact rfl | exact ⟨rfl, rfl⟩
          go_simp
          refine wpG_pe rfl rfl ?_
          apply Exists.intro
          refine ⟨fun wq => ?_, ?_⟩
          · unfold plainAt
            go_simp
            first | exact rfl | exact ⟨rfl, rfl⟩
          go_simp
          refine wpG_pe rfl rfl ?_
          apply Exists.intro
          refine ⟨fun wq => ?_, ?_⟩
          · unfold plainAt
            go_simp
            first | exact rfl | exact ⟨rfl, rfl⟩
          go_simp
          refine wpG_c rfl rfl ?_
          intro w5 g5 K hK
          go_simp
          go_at_call 104
          refine (HBY.out w5).mono ?_
          rintro e wn ⟨vb, rfl, ob⟩
          obtain ⟨Ab, cb, rfl, sb⟩ := ob.slice; refine hK _ _ ob.below ?_; have G5 := Lib.hid ((G3.out.trans g5).trans ob.below); have SB := Lib.hid sb; clear g5 ob sb hK
          go_simp
          refine wpG_qe rfl rfl ?_
          apply Exists.intro
          refine ⟨fun wq hq => ?_, ?_⟩
          · have hcv := run_bytes_string Tryz.underlying22 Tryz.underlying5 Tryz.underlying9 (Sl.mono SB.out hq)
            unfold plainAt
            go_simp
            first | exact rfl | exact ⟨rfl, rfl⟩
          go_simp
          have HX : Hid (s.extract 0 k = ⟨(l.take k).toArray⟩) := by
            show _ = _
            rw [HS.out]
            apply ByteArray.ext
            simp [ByteArray.extract, ByteArray.copySlice]
          have HT : Hid ((s.extract 0 k).toList = l.take k) := by
            show _ = _
            rw [ByteArray.toList_eq, HX.out]
          by_cases hq : bytesR v = l.take k
          · have e2 : (bytesR v == (s.extract 0 k).toList) = true := by rw [HT.out, hq]; simp
            have hz : rn = v ∧ sz = k := by
              have h := HF3.out
              rw [if_neg (by rintro (e | e); (rw [hrv] at e; cases e); exact e hq), HR.out] at h
              injection h with h1 h2
              exact ⟨h1, h2⟩
            obtain ⟨rfl, rfl⟩ := hz
            clear hq
            refine wpG_pe rfl rfl ?_
            apply Exists.intro
            refine ⟨fun wq => ?_, ?_⟩
            · unfold plainAt
              go_simp
              first | exact rfl | exact ⟨rfl, rfl⟩
            go_simp
            refine wpG_pe rfl rfl ?_
            apply Exists.intro
            refine ⟨fun wq => ?_, ?_⟩
            · unfold plainAt
              go_simp
              first | exact rfl | exact ⟨rfl, rfl⟩
            go_simp
            refine wpG_nil ?_
            intro w4 g4
            have G4 := Lib.hid (G5.out.trans g4); clear g4
            go_wp2_with fail
            go_ret2
            exact ⟨rfl, G4.out⟩
          · have e2 : (bytesR v == (s.extract 0 k).toList) = false := by rw [HT.out]; exact beq_eq_false_iff_ne.2 hq
            have hz : firstR l = (0, 0) := by rw [HF3.out, if_pos (.inr hq)]
            obtain ⟨rfl, rfl⟩ := Hzero.out hz
            clear hz hq
            refine wpG_pe rfl rfl ?_
            apply Exists.intro
            refine ⟨fun wq => ?_, ?_⟩
            · unfold plainAt
              go_simp
              first | exact rfl | exact ⟨rfl, rfl⟩
            go_simp
            refine wpG_pe rfl rfl ?_
            apply Exists.intro
            refine ⟨fun wq => ?_, ?_⟩
            · unfold plainAt
              go_simp
              first | exact rfl | exact ⟨rfl, rfl⟩
            go_simp
            refine wpG_nil ?_
            intro w4 g4
            have G4 := Lib.hid (G5.out.trans g4); clear g4
            go_wp2_with fail
            go_ret2
            exact ⟨rfl, G4.out⟩
end Go.Proofs.YtadenlhnfkccaaaGreatDoor

namespace Go.Proofs.YtadenlhnfkccaaaGreatDoor
open Go.RowKit
set_option linter.unusedVariables false

/-! ### append, and what else the call has made stays -/
/-- From w to w' only v's own row has turned; v' lies where v lay, or in new memory. -/
def Kept (w w' : World) (v v' : Value) : Prop := (∀ b, b < w.heap.size → v.ownBlock ≠ some b → w'.heap[b]? = w.heap[b]?) ∧ w.heap.size ≤ w'.heap.size ∧ (v'.ownBlock = v.ownBlock ∨ v'.ownBlock = some w.heap.size)
/-- A row of bytes that does not lie in v's own memory. -/
def Apart (v : Value) (r : BRow) : Prop := ∀ b o, 0 < r.n → r.a = some ⟨b, o, none⟩ → v.ownBlock ≠ some b
theorem Apart.nil (r : BRow) : Apart (.slice none 0 0) r := fun b o _ _ h => by cases h
theorem Bs.kept {w w' : World} {v v' : Value} {r : BRow} (h : Bs w r.a r.n r.c r.l) (hk : Kept w w' v v') (ha : Apart v r) : Bs w' r.a r.n r.c r.l ∧ Apart v' r := by
  obtain ⟨h1, h2, h3, h4⟩ := h
  refine ⟨⟨h1, h2, h3, fun hn => ?_⟩, ?_⟩
  · obtain ⟨b, o, e, hc⟩ := h4 hn
    refine ⟨b, o, e, fun j u hu => ?_⟩
    have hcell := hc j u hu
    have hlt := World.block_lt_of_cell? w _ hcell
    rw [World.cell?_of_block (w := w) (hk.1 b hlt (ha b o hn e))]
    exact hcell
  · intro b o hn e
    obtain ⟨b', o', e', hc⟩ := h4 hn
    rw [e'] at e
    injection e with e
    injection e with e1 e2
    subst e1
    have hl : 0 < (r.l.map u8c).length := by have := h1; omega
    have hcell := hc 0 _ (List.getElem?_eq_getElem hl)
    have hlt := World.block_lt_of_cell? w _ hcell
    rcases hk.2.2 with h | h
    · rw [h]; exact ha b' o' hn e'
    · rw [h]; intro e; injection e with e; have : b' < w.heap.size := hlt; omega
theorem Bs.lt {w : World} {r : BRow} (h : Bs w r.a r.n r.c r.l) (hn : 0 < r.n) (b o : Nat) (e : r.a = some ⟨b, o, none⟩) : b < w.heap.size := by
  obtain ⟨h1, h2, h3, h4⟩ := h
  obtain ⟨b', o', e', hc⟩ := h4 hn
  rw [e'] at e
  injection e with e
  injection e with e1 e2
  subst e1
  have hl : 0 < (r.l.map u8c).length := by have := h1; omega
  exact World.block_lt_of_cell? w _ (hc 0 _ (List.getElem?_eq_getElem hl))
/-- A row that lay there when the call began. -/
theorem Apart.old {w0 w : World} {e : TypeId} {size n : Nat} {v : Value} {xs : List Value} {r : BRow} (h : Own w0 w e size v n xs) (hr : Bs w0 r.a r.n r.c r.l) : Apart v r := fun b o hn e hv => by
  have h1 := (h.1.lt b hv).1
  have h2 := hr.lt hn b o e
  omega
/-- A row that lies in memory made behind w. -/
theorem Apart.new {w0 w w1 : World} {e e1 : TypeId} {size s1 n n1 : Nat} {v : Value} {A : Option Addr} {m c : Nat} {xs xs1 : List Value} {l : List UInt8} (h : Own w0 w e size v n xs) (hr : Own w w1 e1 s1 (.slice A m c) n1 xs1) : Apart v ⟨A, m, c, l⟩ := fun b o hn e hv => by
  have h1 := (h.1.lt b hv).2
  have e : A = some ⟨b, o, none⟩ := e
  have h2 := (hr.1.lt b (by rw [e]; rfl)).1
  omega

theorem wp_pushG {P : Program} {o : Oper} {a : Act} {K : Act → World → Prop} {Q : Exit → Act → World → Prop} (s x : Operand) (t : TypeId)
    (ho : o.op = .call { callee := .builtin .append, args := #[s, x], argTypes := #[t, t] })
    {e : TypeId} {z : Value} {size bytes : Nat} (ht : ElemT P t e z size bytes) {w0 w : World} {v : Value} {n : Nat} {xs : List Value} (hs : a.eval s = v) (hown : Own w0 w e size v n xs)
    (g c : Nat) (cs : List Value) (hx : a.eval x = .slice (some ⟨g, 0, none⟩) 1 c) (hl : cs.length = size) (h1 : ∀ u ∈ cs, u.oneCell' = true)
    (hc : ∀ j u, cs[j]? = some u → w.cell? ⟨g, j, none⟩ = some u)
    (hroom : (n + 1) * bytes ≤ 140737488355328)
    (h : ∀ v' w', Own w0 w' e size v' (n + 1) (xs ++ cs) → Kept w w' v v' → K (a.put o.dst v') w') : o.wp P a w K Q := by
  obtain ⟨i, hi, hz, hsz, hby⟩ := info_parts ht.info
  have hb1 : n + 1 ≤ (n + 1) * bytes := Nat.le_mul_of_pos_right _ ht.bpos
  obtain ⟨v', w', hrun, h2, h3, _, h5⟩ := run_append_own_at (P := P) w w0.heap.size t o.type e i z size bytes ht.und hi hz hsz hby ht.cells ht.pos v n xs hown.1 ⟨g, 0, none⟩ 1 c cs (by simp [hl])
    (fun j u hu => by
      have he : (Addr.mk g 0 none).add j = ⟨g, j, none⟩ := by unfold Addr.add; split <;> simp_all
      rw [he]; exact hc j u hu) h1 (by simp only [maxLen]; omega) hroom hown.2.size
  unfold Oper.wp execOp
  simp only [ho, resolve, invoke, builtin, Sem.run_bind, Sem.run_pure, Result.andThen_ok, List.map_toArray, List.map_cons, List.map_nil, hs, hx, hrun]
  refine h v' w' ⟨h2, hown.2.grown h3 hown.2.size (fun k hk => (hown.1.lt k hk).1)⟩ ⟨fun b hb hne => ?_, h3.size, h5⟩
  exact h3.block b hb (fun e => hne e.symm)
theorem step_pushG {P : Program} {ops : Array Oper} {o : Oper} {a : Act} {K : Act → World → Prop} {Q : Exit → Act → World → Prop} {E : Prop} (hgd : o.guard = none) (s x : Operand) (t : TypeId)
    (ho : o.op = .call { callee := .builtin .append, args := #[s, x], argTypes := #[t, t] })
    {e : TypeId} {z : Value} {size bytes : Nat} (ht : ElemT P t e z size bytes) {w0 w : World} {v : Value} {n : Nat} {xs : List Value} (hs : a.eval s = v) (hown : Own w0 w e size v n xs)
    (g c : Nat) (cs : List Value) (hx : a.eval x = .slice (some ⟨g, 0, none⟩) 1 c) (hl : cs.length = size) (h1 : ∀ u ∈ cs, u.oneCell' = true)
    (hc : ∀ j u, cs[j]? = some u → w.cell? ⟨g, j, none⟩ = some u)
    (hroom : (n + 1) * bytes ≤ 140737488355328)
    (h : ∀ v' w', Own w0 w' e size v' (n + 1) (xs ++ cs) → Kept w w' v v' → K (a.put o.dst v') w') :
    if Region.wanted o (yielded ops a.tmps) = true then Oper.wp P o a w K Q else E := by
  have hw : Region.wanted o (yielded ops a.tmps) = true := by simp [Region.wanted, hgd]
  rw [if_pos hw]
  exact wp_pushG s x t ho ht hs hown g c cs hx hl h1 hc hroom h
theorem wpList_pushG {P : Program} {ops : Array Oper} {rest : List Oper} {o : Oper} {a : Act} {Q : Exit → Act → World → Prop} (hgd : o.guard = none) (s x : Operand) (t : TypeId)
    (ho : o.op = .call { callee := .builtin .append, args := #[s, x], argTypes := #[t, t] })
    {e : TypeId} {z : Value} {size bytes : Nat} (ht : ElemT P t e z size bytes) {w0 w : World} {v : Value} {n : Nat} {xs : List Value} (hs : a.eval s = v) (hown : Own w0 w e size v n xs)
    (cs : Array Value) (hx : a.eval x = .slice (some ⟨w.heap.size, 0, none⟩) 1 1) (hl : cs.size = size) (h1 : ∀ u ∈ cs.toList, u.oneCell' = true)
    (hroom : (n + 1) * bytes ≤ 140737488355328)
    (h : ∀ v' w', Own w0 w' e size v' (n + 1) (xs ++ cs.toList) → Kept (w.alloc (.cells cs e)) w' v v' → wpList P ops Q rest (a.put o.dst v') w') : wpList P ops Q (o :: rest) a (w.alloc (.cells cs e)) :=
  wpList_plain hgd fun _ hK => wp_pushG s x t ho ht hs (hown.alloc _) w.heap.size 1 cs.toList hx (by simpa using hl) h1 (fun j u hu => by
    have hj : (w.alloc (.cells cs e)).heap[w.heap.size]? = some (.cells cs e) := heap_alloc_new w _
    simp only [World.cell?, hj]
    simpa using hu) hroom fun v' w' h2 h3 => hK _ _ (h v' w' h2 h3)

/-- Rows that the call has gathered in its own slice v. -/
def Gath (w0 w : World) (t : TypeId) (v : Value) (R : List BRow) : Prop := Own w0 w t 1 v R.length (R.map BRow.v) ∧ ∀ r ∈ R, Bs w r.a r.n r.c r.l ∧ Apart v r
theorem Gath.nil (w : World) (t : TypeId) : Gath w w t (.slice none 0 0) [] := ⟨Own.nil _ _ _, fun r hr => by cases hr⟩
theorem Gath.mono {w0 w w' : World} {t : TypeId} {v : Value} {R : List BRow} (h : Gath w0 w t v R) (hb : Below w.heap.size w w') : Gath w0 w' t v R := ⟨h.1.mono hb, fun r hr => ⟨(h.2 r hr).1.mono hb, (h.2 r hr).2⟩⟩
theorem Gath.push {w0 w w' : World} {t : TypeId} {v v' : Value} {R : List BRow} {r : BRow} (h : Gath w0 w t v R) (hr : Bs w r.a r.n r.c r.l) (ha : Apart v r) {cs : Array Value} (ho : Own w0 w' t 1 v' (R.length + 1) (R.map BRow.v ++ [r.v])) (hk : Kept (w.alloc (.cells cs t)) w' v v') : Gath w0 w' t v' (R ++ [r]) := by
  have hb := (Below.refl w.heap.size w).alloc (Nat.le_refl _) (.cells cs t)
  refine ⟨by rw [List.length_append, List.map_append]; exact ho, fun x hx => ?_⟩
  rcases List.mem_append.1 hx with hx | hx
  · exact Bs.kept (r := x) ((h.2 x hx).1.mono hb) hk (h.2 x hx).2
  · obtain rfl : x = r := by simpa using hx
    exact Bs.kept (r := x) (hr.mono hb) hk ha
theorem Gath.bss {w0 w : World} {t : TypeId} {v : Value} {R : List BRow} (h : Gath w0 w t v R) : ∃ A c, v = .slice A R.length c ∧ Bss w A R.length c R := by
  obtain ⟨A, c, rfl, hs⟩ := h.1.slice
  exact ⟨A, c, rfl, hs, fun r hr => (h.2 r hr).1⟩

theorem Kept.refl (w : World) (v : Value) : Kept w w v v := ⟨fun _ _ _ => rfl, Nat.le_refl _, .inl rfl⟩
/-- 'append(s, x...)': s the call's own; x whatever slice; what else the call has made stays. -/
theorem wp_catG {P : Program} {o : Oper} {a : Act} {K : Act → World → Prop} {Q : Exit → Act → World → Prop} (s x : Operand) (t : TypeId)
    (ho : o.op = .call { callee := .builtin .append, args := #[s, x], argTypes := #[t, t] })
    {e : TypeId} {z : Value} {size bytes : Nat} (ht : ElemT P t e z size bytes) {w0 w : World} {v : Value} {n : Nat} {xs : List Value} (hs : a.eval s = v) (hown : Own w0 w e size v n xs)
    {A : Option Addr} {m c : Nat} {news : List Value} (hx : a.eval x = .slice A m c) (hsl : Sl w A m c size news) (h1 : ∀ u ∈ news, u.oneCell' = true)
    (hroom : (n + m) * bytes ≤ 140737488355328)
    (h : ∀ v' w', Own w0 w' e size v' (n + m) (xs ++ news) → Kept w w' v v' → K (a.put o.dst v') w') : o.wp P a w K Q := by
  obtain ⟨i, hi, hz, hsz, hby⟩ := info_parts ht.info
  have hb1 : n + m ≤ (n + m) * bytes := Nat.le_mul_of_pos_right _ ht.bpos
  have : ∃ v' w', (Builtin.append_ #[t, t] o.type #[v, .slice A m c]).run P w = .ok v' w' ∧ Own w0 w' e size v' (n + m) (xs ++ news) ∧ Kept w w' v v' := by
    rcases Nat.eq_zero_or_pos m with hm | hm
    · subst hm
      have hn : news = [] := List.eq_nil_of_length_eq_zero (by simpa using hsl.1)
      subst hn
      exact ⟨v, w, run_append_nothing w ht.und hi hown.1 A c, by simpa using hown, Kept.refl w v⟩
    · obtain ⟨b, off, rfl, hc⟩ := hsl.addr hm
      obtain ⟨v', w', hrun, h2, h3, _, h5⟩ := run_append_own_at (P := P) w w0.heap.size t o.type e i z size bytes ht.und hi hz hsz hby ht.cells ht.pos v n xs hown.1 ⟨b, off, none⟩ m c news hsl.1
        (fun j u hu => by
          have he : (Addr.mk b off none).add j = ⟨b, off + j, none⟩ := by unfold Addr.add; split <;> simp_all
          rw [he]; exact hc j u hu) h1 (by simp only [maxLen]; omega) hroom hown.2.size
      exact ⟨v', w', hrun, ⟨h2, hown.2.grown h3 hown.2.size (fun k hk => (hown.1.lt k hk).1)⟩, fun b hb hne => h3.block b hb (fun e => hne e.symm), h3.size, h5⟩
  obtain ⟨v', w', hrun, h2, h3⟩ := this
  unfold Oper.wp execOp
  simp only [ho, resolve, invoke, builtin, Sem.run_bind, Sem.run_pure, Result.andThen_ok, List.map_toArray, List.map_cons, List.map_nil, hs, hx, hrun]
  exact h v' w' h2 h3
theorem wpList_catG {P : Program} {ops : Array Oper} {rest : List Oper} {o : Oper} {a : Act} {Q : Exit → Act → World → Prop} (hgd : o.guard = none) (s x : Operand) (t : TypeId)
    (ho : o.op = .call { callee := .builtin .append, args := #[s, x], argTypes := #[t, t] })
    {e : TypeId} {z : Value} {size bytes : Nat} (ht : ElemT P t e z size bytes) {w0 w : World} {v : Value} {n : Nat} {xs : List Value} (hs : a.eval s = v) (hown : Own w0 w e size v n xs)
    {A : Option Addr} {m c : Nat} {news : List Value} (hx : a.eval x = .slice A m c) (hsl : Sl w A m c size news) (h1 : ∀ u ∈ news, u.oneCell' = true)
    (hroom : (n + m) * bytes ≤ 140737488355328)
    (h : ∀ v' w', Own w0 w' e size v' (n + m) (xs ++ news) → Kept w w' v v' → wpList P ops Q rest (a.put o.dst v') w') : wpList P ops Q (o :: rest) a w :=
  wpList_plain hgd fun _ hK => wp_catG s x t ho ht hs hown hx hsl h1 hroom fun v' w' h2 h3 => hK _ _ (h v' w' h2 h3)
theorem step_catG {P : Program} {ops : Array Oper} {o : Oper} {a : Act} {K : Act → World → Prop} {Q : Exit → Act → World → Prop} {E : Prop} (hgd : o.guard = none) (s x : Operand) (t : TypeId)
    (ho : o.op = .call { callee := .builtin .append, args := #[s, x], argTypes := #[t, t] })
    {e : TypeId} {z : Value} {size bytes : Nat} (ht : ElemT P t e z size bytes) {w0 w : World} {v : Value} {n : Nat} {xs : List Value} (hs : a.eval s = v) (hown : Own w0 w e size v n xs)
    {A : Option Addr} {m c : Nat} {news : List Value} (hx : a.eval x = .slice A m c) (hsl : Sl w A m c size news) (h1 : ∀ u ∈ news, u.oneCell' = true)
    (hroom : (n + m) * bytes ≤ 140737488355328)
    (h : ∀ v' w', Own w0 w' e size v' (n + m) (xs ++ news) → Kept w w' v v' → K (a.put o.dst v') w') :
    if Region.wanted o (yielded ops a.tmps) = true then Oper.wp P o a w K Q else E := by
  have hw : Region.wanted o (yielded ops a.tmps) = true := by simp [Region.wanted, hgd]
  rw [if_pos hw]
  exact wp_catG s x t ho ht hs hown hx hsl h1 hroom h
end Go.Proofs.YtadenlhnfkccaaaGreatDoor

/- Names: the reference's runes of a text, their number, and its parts. No condition. -/
namespace Go.Proofs.YtadenlhnfkccaaaGreatDoor
open Go.RowKit
set_option linter.unusedVariables false
theorem tRunes : ElemT Tryz.prog 122 21 (.int .i32 0) 1 4 := ⟨Tryz.underlying122, by kernel_rfl, rfl, by decide, by decide⟩
def i32c (n : Nat) : Value := .int .i32 (n : Int)
theorem runesR_fuel : ∀ (n f : Nat) (l : List UInt8), l.length ≤ n → n ≤ f → runesR f l = runesR n l
  | 0, f, [], _, _ => by cases f <;> rfl
  | 0, _, _ :: _, h, _ => by simp at h
  | n + 1, 0, _, _, h => by omega
  | n + 1, f + 1, [], _, _ => rfl
  | n + 1, f + 1, b :: t, h, hf => by
    simp only [runesR]
    by_cases h0 : (firstR (b :: t)).2 = 0
    · rw [if_pos h0, if_pos h0]
    · rw [if_neg h0, if_neg h0, runesR_fuel n f _ (by rw [List.length_drop]; simp at h ⊢; omega) (by omega)]
def runesA (l : List UInt8) : Option (List Nat) := runesR l.length l
theorem runesA_nil : runesA [] = some [] := rfl
theorem runesA_step (l : List UInt8) (hl : 0 < l.length) : runesA l = if (firstR l).2 = 0 then none else (runesA (l.drop (firstR l).2)).map ((firstR l).1 :: ·) := by
  match l, hl with
  | b :: t, _ =>
    unfold runesA
    show runesR (t.length + 1) (b :: t) = _
    simp only [runesR]
    by_cases h0 : (firstR (b :: t)).2 = 0
    · rw [if_pos h0, if_pos h0]
    · rw [if_neg h0, if_neg h0, runesR_fuel _ t.length _ (Nat.le_refl _) (by rw [List.length_drop]; simp; omega)]
theorem first_le (l : List UInt8) : (firstR l).2 ≤ l.length := by
  rcases Nat.eq_zero_or_pos l.length with h | h
  · obtain rfl : l = [] := List.eq_nil_of_length_eq_zero h
    exact Nat.le_refl _
  · rw [firstR_is l h]
    split
    · exact Nat.zero_le _
    · split
      · exact Nat.zero_le _
      · split
        · exact Nat.zero_le _
        · show (leadR _).1 ≤ _
          omega
theorem drop_text (l : List UInt8) (s : ByteArray) (hs : s = ⟨l.toArray⟩) (k : Nat) : s.extract k s.size = ⟨(l.drop k).toArray⟩ := by
  subst hs
  apply ByteArray.ext
  rw [size_of']
  simp [ByteArray.extract, ByteArray.copySlice]
  rw [List.take_of_length_le (by simp)]
/-- What Runes tells: the runes, or a fault. -/
def RetRu (w : World) (o : Option (List Nat)) (e : Ending) (w' : World) : Prop := match o with
  | some rs => ∃ v, e = .returned (.tuple #[v, .int .i64 0, .int .i64 0]) ∧ Own w w' 21 1 v rs.length (rs.map i32c)
  | none => ∃ p : Nat, e = .returned (.tuple #[.slice none 0 0, .int .i64 (p : Int), .int .i64 4]) ∧ Gr w w'
set_option maxHeartbeats 2000000 in
theorem refRunes_any (l : List UInt8) (w : World) (hl : l.length ≤ 100000) : Calls Tryz.prog 65 #[.string ⟨l.toArray⟩] w (RetRu w (runesA l)) := by
  obtain ⟨s, hs⟩ : ∃ s : ByteArray, s = ⟨l.toArray⟩ := ⟨_, rfl⟩
  have hsz : s.size = l.length := by rw [hs]; exact size_of' l
  have HD := Lib.hid (drop_text l s hs)
  rw [← hs]
  have HS := Lib.hid hs; clear hs
  have HSZ := Lib.hid hsz
  have hsl : s.size ≤ 100000 := by omega
  clear hsz
  obtain ⟨o, ho⟩ : ∃ o, o = runesA l := ⟨_, rfl⟩
  rw [← ho]
  have HO := Lib.hid ho; clear ho
  go_enter Tryz.func65, Tryz.ntmps65
  go_wp2_with fail
  go_loopw [5, 6] (fun v i wr => ∃ (pos : Nat) (rs : List Nat), pos ≤ s.size ∧ i = .int .i64 pos ∧ rs.length ≤ pos ∧ Own w wr 21 1 v rs.length (rs.map i32c) ∧ runesA l = (runesA (l.drop pos)).map (rs ++ ·)) (fun _ i _ => s.size - (intOf i).toNat)
  case atStart => exact ⟨0, [], Nat.zero_le _, rfl, Nat.le_refl _, Own.nil w _ _, by rw [List.drop_zero]; simp⟩
  case round v0 i0 =>
    obtain ⟨pos, rs, hps, rfl, hrl, own, hru⟩ := hrel
    have HRU := Lib.hid hru; clear hru
    have OW := Lib.hid own; clear own
    by_cases hlt : pos < s.size
    · have hx := HD.out pos
      have hdl : (l.drop pos).length = s.size - pos := by rw [List.length_drop, HSZ.out]
      have hfl := first_le (l.drop pos)
      rw [hdl] at hfl
      have hst := runesA_step (l.drop pos) (by omega)
      rw [List.drop_drop] at hst
      have hfi := fun w => refFirst_any (l.drop pos) w (by rw [hdl]; omega)
      rw [← hx] at hfi
      clear hx hdl
      generalize firstR (l.drop pos) = fr at *
      obtain ⟨rn, sz⟩ := fr
      simp only at hfl hst hfi
      have HFI := Lib.hid hfi; have HST := Lib.hid hst
      clear hfi hst
      go_wp2_with fail
      refine (HFI.out _).mono ?_
      rintro e w1 ⟨rfl, g1⟩
      have G1 := Lib.hid g1; clear g1
      by_cases h0 : sz = 0
      · subst h0
        have HN : Hid (o = none) := by
          show _ = _
          rw [HO.out, HRU.out, HST.out, if_pos rfl]
          rfl
        go_wp2_with fail
        go_ret3
        rw [HN.out]
        exact ⟨pos, rfl, Gr.trans OW.out.below G1.out⟩
      · have t0 : ((sz : Int) == 0) = false := beq_eq_false_iff_ne.2 (by omega)
        have HR2 : Hid (runesA l = (runesA (l.drop (pos + sz))).map ((rs ++ [rn]) ++ ·)) := by
          show _ = _
          rw [HRU.out, HST.out, if_neg h0]
          cases runesA (l.drop (pos + sz)) with
          | none => rfl
          | some x => simp
        have OG := Lib.hid (OW.out.mono G1.out)
        go_wp2_with (at_builtin; refine wpList_push rfl (.tmp 23) (.tmp 25) 122 rfl tRunes rfl OG.out #[_] rfl rfl (one_int _ _) (by omega) ?_; intro v5 w5 o5)
        have O5 : Hid (Own w w5 21 1 v5 (rs ++ [rn]).length ((rs ++ [rn]).map i32c)) := by
          rw [List.length_append, List.map_append]
          exact o5
        clear o5
        go_roundw
        case rel => exact ⟨pos + sz, rs ++ [rn], by omega, by first | trivial | go_num, by simp; omega, O5.out, HR2.out⟩
        case measure =>
          show s.size - ((pos : Int) + sz).toNat < s.size - (pos : Int).toNat
          omega
    · have hpe : pos = l.length := by have := HSZ.out; omega
      have HN : Hid (o = some rs) := by
        show _ = _
        rw [HO.out, HRU.out, hpe, List.drop_length, runesA_nil]
        simp
      go_wp2_with fail
      go_ret3
      rw [HN.out]
      exact ⟨_, rfl, OW.out⟩
def countR (o : Option (List Nat)) : Int := match o with
  | some rs => rs.length
  | none => -1
theorem rune_at {w : World} {A : Option Addr} {n c : Nat} {rs : List Nat} (h : Sl w A n c 1 (rs.map i32c)) (hn : 0 < n) : ∃ b o, A = some ⟨b, o, none⟩ ∧ ∀ j (hj : j < rs.length), w.cell? ⟨b, o + j, none⟩ = some (.int .i32 (rs[j] : Int)) := by
  obtain ⟨b, o, e, hc⟩ := h.addr hn
  exact ⟨b, o, e, fun j hj => hc j _ (by rw [List.getElem?_map, List.getElem?_eq_getElem hj]; rfl)⟩
set_option maxHeartbeats 2000000 in
theorem refPart_any (l : List UInt8) (w : World) (hl : l.length ≤ 100000) : Calls Tryz.prog 36 #[.string ⟨l.toArray⟩] w fun e w' => e = .returned (.bool (partL l)) ∧ Gr w w' := by
  have HR := Lib.hid (refRunes_any l w hl)
  obtain ⟨s, hs⟩ : ∃ s : ByteArray, s = ⟨l.toArray⟩ := ⟨_, rfl⟩
  rw [← hs] at HR ⊢
  clear hs
  obtain ⟨b, hb⟩ : ∃ b, b = partL l := ⟨_, rfl⟩
  rw [← hb]
  have hb2 : b = (match runesA l with
    | some rs => decide (1 ≤ rs.length) && decide (rs.length ≤ 8) && rs.all smallR
    | none => false) := by rw [hb, ← partR_eq]; rfl
  clear hb
  generalize runesA l = o at *
  cases o with
  | none =>
    obtain rfl : b = false := hb2
    go_enter Tryz.func36, Tryz.ntmps36
    go_wp2_with fail
    refine HR.out.mono ?_
    rintro e w1 ⟨q, rfl, g1⟩
    have G1 := Lib.hid g1; clear g1
    go_wp2_with fail
    go_ret
    exact ⟨rfl, G1.out⟩
  | some rs =>
    have HB : Hid (b = (decide (1 ≤ rs.length) && decide (rs.length ≤ 8) && rs.all smallR)) := hb2
    clear hb2
    go_enter Tryz.func36, Tryz.ntmps36
    go_wp2_with fail
    refine HR.out.mono ?_
    rintro e w1 ⟨v, rfl, own⟩
    have G1 := Lib.hid own.below
    obtain ⟨A, c, rfl, sl⟩ := own.slice
    have hm := sl.max
    have hcap := sl.cap
    clear own
    by_cases h1 : rs.length < 1
    · have t1 : decide ((rs.length : Int) < 1) = true := decide_eq_true (by omega)
      have HF : Hid (b = false) := by show _ = _; rw [HB.out, decide_eq_false (show ¬ 1 ≤ rs.length by omega)]; rfl
      clear sl
      go_wp2_with fail
      go_ret
      exact ⟨by rw [HF.out]; rfl, G1.out⟩
    have t1 : decide ((rs.length : Int) < 1) = false := decide_eq_false (by omega)
    by_cases h8 : 8 < rs.length
    · have t8 : decide ((8 : Int) < (rs.length : Int)) = true := decide_eq_true (by omega)
      have HF : Hid (b = false) := by show _ = _; rw [HB.out, decide_eq_false (show ¬ rs.length ≤ 8 by omega), Bool.and_false]; rfl
      clear sl
      go_wp2_with fail
      go_ret
      exact ⟨by rw [HF.out]; rfl, G1.out⟩
    have t8 : decide ((8 : Int) < (rs.length : Int)) = false := decide_eq_false (by omega)
    have HA : Hid (b = rs.all smallR) := by show _ = _; rw [HB.out, decide_eq_true (show 1 ≤ rs.length by omega), decide_eq_true (show rs.length ≤ 8 by omega)]; rfl
    obtain ⟨bk, o, rfl, hcl⟩ := rune_at sl (by omega)
    have HC := Lib.hid hcl; clear hcl sl
    go_wp2_with fail
    go_loopw [6] (fun i wr => ∃ k : Nat, k ≤ rs.length ∧ i = .int .i64 k ∧ wr = w1 ∧ (rs.take k).all smallR = true) (fun i _ => rs.length - (intOf i).toNat)
    case atStart => exact ⟨0, Nat.zero_le _, rfl, rfl, rfl⟩
    case round =>
      obtain ⟨k, hk, rfl, rfl, hall⟩ := hrel
      have HAL := Lib.hid hall; clear hall
      by_cases hlt : k < rs.length
      · have hc := HC.out k hlt
        have HTK : Hid ((rs.take (k + 1)).all smallR = smallR rs[k]) := by
          show _ = _
          rw [List.take_succ_eq_append_getElem hlt, List.all_append, HAL.out]
          simp
        have HIN : Hid (smallR rs[k] = false → b = false) := fun e => by
          rw [HA.out]
          rw [List.all_eq_false]
          exact ⟨rs[k], List.getElem_mem hlt, by rw [e]; decide⟩
        have HSM := Lib.hid (refSmall_any rs[k])
        generalize rs[k] = y at *
        cases hsm : smallR y with
        | false =>
          rw [hsm] at HSM
          have HF := Lib.hid (HIN.out hsm)
          clear hsm
          go_wp2_with fail
          refine (HSM.out _).mono ?_
          rintro e w2 ⟨rfl, h2⟩
          subst h2
          go_wp2_with fail
          go_ret
          exact ⟨by rw [HF.out]; rfl, G1.out⟩
        | true =>
          rw [hsm] at HSM HTK
          clear hsm
          go_wp2_with fail
          refine (HSM.out _).mono ?_
          rintro e w2 ⟨rfl, h2⟩
          subst h2
          go_wp2_with fail
          go_roundw
          case rel => exact ⟨k + 1, by omega, by go_num, by first | trivial | rfl, HTK.out⟩
          case measure =>
            show rs.length - ((k : Int) + 1).toNat < rs.length - (k : Int).toNat
            omega
      · have HF : Hid (b = true) := by
          show _ = _
          rw [HA.out]
          have := HAL.out
          rwa [List.take_of_length_le (by omega)] at this
        go_wp2_with fail
        go_ret
        exact ⟨by rw [HF.out]; rfl, G1.out⟩
end Go.Proofs.YtadenlhnfkccaaaGreatDoor

/- What a call turns: a set of blocks, and new memory. No condition. -/
namespace Go.Proofs.YtadenlhnfkccaaaGreatDoor
open Go.RowKit
set_option linter.unusedVariables false
/-- From w to w' only the blocks of S have turned, and new ones have come. -/
structure Tch (S : Nat → Prop) (w w' : World) : Prop where
  bel : Below 0 w w'
  keep : ∀ b, b < w.heap.size → ¬ S b → w'.heap[b]? = w.heap[b]?
theorem Tch.size {S : Nat → Prop} {w w' : World} (h : Tch S w w') : w.heap.size ≤ w'.heap.size := h.bel.size
theorem Tch.gr {S : Nat → Prop} {w w' : World} (h : Gr w w') : Tch S w w' := ⟨Below.mono h (Nat.zero_le _), fun b hb _ => h.block b hb⟩
theorem Tch.refl {S : Nat → Prop} (w : World) : Tch S w w := Tch.gr (Gr.refl w)
theorem Tch.trans {S : Nat → Prop} {a b c : World} (h : Tch S a b) (k : Tch S b c) : Tch S a c :=
  ⟨h.bel.trans k.bel, fun x hx hs => (k.keep x (Nat.lt_of_lt_of_le hx h.size) hs).trans (h.keep x hx hs)⟩
/-- A set that is new memory from a's point of view counts for nothing. -/
theorem Tch.trans' {S S' : Nat → Prop} {a b c : World} (h : Tch S a b) (k : Tch S' b c) (hs : ∀ x, x < a.heap.size → S' x → S x) : Tch S a c :=
  ⟨h.bel.trans k.bel, fun x hx hn => (k.keep x (Nat.lt_of_lt_of_le hx h.size) (fun q => hn (hs x hx q))).trans (h.keep x hx hn)⟩
theorem Tch.mono {S S' : Nat → Prop} {w w' : World} (h : Tch S w w') (hs : ∀ b, b < w.heap.size → S b → S' b) : Tch S' w w' := ⟨h.bel, fun b hb hn => h.keep b hb (fun q => hn (hs b hb q))⟩
theorem Tch.below {S : Nat → Prop} {B : Nat} {a w w' : World} (hb : Below B a w) (h : Tch S w w') (hB : B ≤ w.heap.size) (hS : ∀ b, S b → B ≤ b) : Below B a w' :=
  hb.trans ⟨h.bel.os, h.bel.tape, h.bel.output, h.size, fun k hk => h.keep k (by omega) (fun q => by have := hS k q; omega)⟩
theorem Tch.to_gr {S : Nat → Prop} {w w' : World} (h : Tch S w w') (hS : ∀ b, b < w.heap.size → ¬ S b) : Gr w w' := ⟨h.bel.os, h.bel.tape, h.bel.output, h.size, fun k hk => h.keep k hk (hS k hk)⟩
theorem Tch.set {S : Nat → Prop} {w : World} (p : Addr) (u : Value) (hS : S p.block) : Tch S w (w.setCell p u) :=
  ⟨(Below.refl 0 w).setCell (Nat.zero_le _) u, fun b _ hn => Below.heap_setCell w p u b (fun e => hn (e ▸ hS))⟩
theorem Tch.grown {S : Nat → Prop} {w w' : World} {row : Option Nat} (hg : w.grownBy w' row) (hr : ∀ k, row = some k → S k) : Tch S w w' :=
  ⟨(Below.refl 0 w).grown hg (Nat.zero_le _) (fun _ _ => Nat.zero_le _), fun b hb hn => hg.block b hb (fun e => hn (hr b e.symm))⟩
section
variable {S : Nat → Prop} {w w' : World}
theorem Blk.tch {g : Nat} {t : TypeId} {cs : List Value} (h : Blk w g t cs) (k : Tch S w w') (hn : ¬ S g) : Blk w' g t cs := (k.keep g h.lt hn).trans h
theorem Sl.lt {A : Option Addr} {n c s : Nat} {xs : List Value} (h : Sl w A n c s xs) (hs : 0 < s) (hn : 0 < n) {b o : Nat} (e : A = some ⟨b, o, none⟩) : b < w.heap.size := by
  obtain ⟨h1, _, _, h4⟩ := h
  obtain ⟨b', o', e', hc⟩ := h4 hn
  rw [e] at e'
  injection e' with e'
  injection e' with e1 e2
  subst e1
  have hl : 0 < xs.length := by rw [h1]; exact Nat.mul_pos hn hs
  have hcell := hc 0 _ (List.getElem?_eq_getElem hl)
  exact World.block_lt_of_cell? w _ hcell
theorem Sl.tch {A : Option Addr} {n c s : Nat} {xs : List Value} (h : Sl w A n c s xs) (hs : 0 < s) (k : Tch S w w') (hn : 0 < n → ∀ b o, A = some ⟨b, o, none⟩ → ¬ S b) : Sl w' A n c s xs := by
  refine ⟨h.1, h.2.1, h.2.2.1, fun h0 => ?_⟩
  obtain ⟨b, o, e, hc⟩ := h.2.2.2 h0
  refine ⟨b, o, e, fun j u hu => ?_⟩
  rw [World.cell?_of_block (w := w) (a := ⟨b, o + j, none⟩) (k.keep b (Sl.lt h hs h0 e) (hn h0 b o e))]
  exact hc j u hu
theorem Own.tch {w0 : World} {e : TypeId} {s n : Nat} {v : Value} {xs : List Value} (h : Own w0 w e s v n xs) (k : Tch S w w') (hB : ∀ b, S b → w0.heap.size ≤ b) (hn : ∀ b, v.ownBlock = some b → ¬ S b) : Own w0 w' e s v n xs := by
  have hb : Below w0.heap.size w0 w' := k.below h.2 h.2.size hB
  obtain ⟨⟨hl, ho⟩, _⟩ := h
  refine ⟨⟨hl, ?_⟩, hb⟩
  rcases ho with h | ⟨g, cap, cur, hv, hg, hh, r⟩
  · exact .inl h
  · exact .inr ⟨g, cap, cur, hv, hg, by rw [k.keep g (Array.getElem?_eq_some_iff.1 hh).1 (hn g (by rw [hv]; rfl))]; exact hh, r⟩
/-- Where the first cell is of another kind, the block is another one. -/
theorem Sl.not_blk {A : Option Addr} {n c s : Nat} {xs cs : List Value} {g : Nat} {t : TypeId} (h : Sl w A n c s xs) (hs : 0 < s) (hb : Blk w g t cs) (hk : ∀ u ∈ cs, ∀ x, xs[0]? = some x → u ≠ x) (hn : 0 < n) {b o : Nat} (e : A = some ⟨b, o, none⟩) : b ≠ g := by
  rintro rfl
  obtain ⟨h1, _, _, h4⟩ := h
  obtain ⟨b', o', e', hc⟩ := h4 hn
  rw [e] at e'
  injection e' with e'
  injection e' with e1 e2
  subst e1 e2
  have hl : 0 < xs.length := by rw [h1]; exact Nat.mul_pos hn hs
  have hcell := hc 0 _ (List.getElem?_eq_getElem hl)
  rw [Nat.add_zero, hb.cell] at hcell
  exact hk _ (List.mem_of_getElem? hcell) _ (List.getElem?_eq_getElem hl) rfl
theorem Sl.not_map {A : Option Addr} {n c s : Nat} {xs : List Value} {g : Nat} {es : Array MapEntry} {clock : Nat} (h : Sl w A n c s xs) (hs : 0 < s) (hm : w.heap[g]? = some (.map es clock)) (hn : 0 < n) {b o : Nat} (e : A = some ⟨b, o, none⟩) : b ≠ g := by
  rintro rfl
  obtain ⟨h1, _, _, h4⟩ := h
  obtain ⟨b', o', e', hc⟩ := h4 hn
  rw [e] at e'
  injection e' with e'
  injection e' with e1 e2
  subst e1 e2
  have hl : 0 < xs.length := by rw [h1]; exact Nat.mul_pos hn hs
  have hcell := hc 0 _ (List.getElem?_eq_getElem hl)
  simp [World.cell?, hm] at hcell
theorem Own.not_map {w0 : World} {e : TypeId} {s n : Nat} {v : Value} {xs : List Value} {g : Nat} {es : Array MapEntry} {clock : Nat} (h : Own w0 w e s v n xs) (hm : w.heap[g]? = some (.map es clock)) : v.ownBlock ≠ some g := by
  intro hv
  rcases h.1.2 with ⟨h1, _⟩ | ⟨g', cap, cur, hv', _, hh, _⟩
  · rw [h1] at hv; cases hv
  · have e1 : g' = g := by rw [hv'] at hv; exact Option.some.inj hv
    rw [e1, hm] at hh
    cases hh
theorem Own.not_blk {w0 : World} {e t : TypeId} {s n g : Nat} {v : Value} {xs cs : List Value} (h : Own w0 w e s v n xs) (hb : Blk w g t cs) (he : e ≠ t) : v.ownBlock ≠ some g := by
  intro hv
  rcases h.1.2 with ⟨h1, _⟩ | ⟨g', cap, cur, hv', _, hh, _⟩
  · rw [h1] at hv; cases hv
  · have e1 : g' = g := by rw [hv'] at hv; exact Option.some.inj hv
    rw [e1, hb] at hh
    injection hh with hh
    injection hh with _ h3
    exact he h3.symm
end
/-- append turns the slice's own block alone. -/
theorem Tch.kept {w0 w w' : World} {e : TypeId} {s n : Nat} {v v' : Value} {xs : List Value} (hk : Kept w w' v v') (h : Own w0 w' e s v' n xs) (hB : Below w0.heap.size w0 w) : Tch (fun b => v.ownBlock = some b) w w' :=
  ⟨⟨h.2.os.trans hB.os.symm, h.2.tape.trans hB.tape.symm, h.2.output.trans hB.output.symm, hk.2.1, fun k hk => by omega⟩, fun b hb hn => hk.1 b hb hn⟩
/-- A row of the call's own, cell by cell, with the room behind it. -/
theorem Own.opened {w0 w : World} {e : TypeId} {s n : Nat} {v : Value} {xs : List Value} (h : Own w0 w e s v n xs) (h0 : 0 < n) : ∃ g cap rest, v = .slice (some ⟨g, 0, none⟩) n cap ∧ w0.heap.size ≤ g ∧ Blk w g e (xs ++ rest) ∧ n ≤ cap ∧ cap ≤ 9223372036854775807 ∧ (xs ++ rest).length = cap * s := by
  rcases h.1.2 with ⟨_, h1⟩ | ⟨g, cap, cur, hv, hg, hh, hn, hm, hc, hx⟩
  · omega
  · have e1 : xs ++ cur.toList.drop (n * s) = cur.toList := by rw [← hx, List.take_append_drop]
    refine ⟨g, cap, cur.toList.drop (n * s), hv, hg, ?_, hn, hm, ?_⟩
    · unfold Blk
      rw [e1]
      simpa using hh
    · rw [e1]; simpa using hc
/-- .. and back. -/
theorem Blk.closed {w0 w : World} {e : TypeId} {s n g cap : Nat} {xs rest : List Value} (h : Blk w g e (xs ++ rest)) (hb : Below w0.heap.size w0 w) (hg : w0.heap.size ≤ g) (hn : n ≤ cap) (hm : cap ≤ 9223372036854775807) (hc : (xs ++ rest).length = cap * s) (hx : xs.length = n * s) : Own w0 w e s (.slice (some ⟨g, 0, none⟩) n cap) n xs :=
  ⟨⟨hx, .inr ⟨g, cap, (xs ++ rest).toArray, rfl, hg, h, hn, hm, by simpa using hc, by rw [← hx]; simp⟩⟩, hb⟩
theorem set_left (xs rest : List Value) (k : Nat) (u : Value) (hk : k < xs.length) : (xs ++ rest).set k u = xs.set k u ++ rest := by rw [List.set_append, if_pos hk]
theorem at_left {xs rest : List Value} {k : Nat} {u : Value} (h : xs[k]? = some u) : (xs ++ rest)[k]? = some u := by
  rw [List.getElem?_append_left (List.getElem?_eq_some_iff.1 h).1]; exact h
end Go.Proofs.YtadenlhnfkccaaaGreatDoor

/- Names: the reference's pieces between points. No condition. -/
namespace Go.Proofs.YtadenlhnfkccaaaGreatDoor
open Go.RowKit
set_option linter.unusedVariables false
theorem tWords : ElemT Tryz.prog 68 9 (.string ⟨#[]⟩) 1 16 := ⟨Tryz.underlying68, by kernel_rfl, rfl, by decide, by decide⟩
/-- A text's value. -/
def strc (p : List UInt8) : Value := .string ⟨p.toArray⟩
theorem strc_one (p : List UInt8) : ∀ u ∈ [strc p], u.oneCell' = true := by intro u hu; simp at hu; subst hu; rfl
theorem pieces_snd : ∀ l : List UInt8, ∃ init z, piecesL l = init ++ [z] := fun l => by
  obtain ⟨init, z, h⟩ := List.eq_nil_or_concat (piecesL l) |>.resolve_left (pieces_ne l)
  exact ⟨init, z, by simpa using h⟩
theorem pieces_size : ∀ l : List UInt8, (piecesL l).length ≤ l.length + 1 ∧ ∀ p ∈ piecesL l, p.length ≤ l.length
  | [] => ⟨by simp [piecesL], by simp [piecesL]⟩
  | b :: t => by
    obtain ⟨h1, h2⟩ := pieces_size t
    unfold piecesL
    by_cases hb : b = 46
    · rw [if_pos hb]
      refine ⟨by simp; exact h1, fun p hp => ?_⟩
      rcases List.mem_cons.1 hp with rfl | hp
      · simp
      · have := h2 p hp; simp; omega
    · rw [if_neg hb]
      cases hq : piecesL t with
      | nil => exact absurd hq (pieces_ne t)
      | cons q ps =>
        rw [hq] at h1 h2
        refine ⟨by show ((b :: q) :: ps).length ≤ _; simp at h1 ⊢; omega, fun p hp => ?_⟩
        have hp : p ∈ (b :: q) :: ps := hp
        rcases List.mem_cons.1 hp with rfl | hp
        · have := h2 q List.mem_cons_self; simp; omega
        · have := h2 p (List.mem_cons_of_mem _ hp); simp; omega
theorem push_point (init : List (List UInt8)) (z : List UInt8) : pushP (init ++ [z]) 46 = (init ++ [z]) ++ [[]] := by unfold pushP; rw [if_pos rfl]
theorem push_other (init : List (List UInt8)) (z : List UInt8) (b : UInt8) (h : b ≠ 46) : pushP (init ++ [z]) b = init ++ [z ++ [b]] := by
  unfold pushP
  rw [if_neg h, List.dropLast_concat, List.getLastD_concat]
theorem set_last (init : List (List UInt8)) (z q : List UInt8) (n : Nat) (hn : n = init.length) : ((init ++ [z]).map strc).set n (strc q) = (init ++ [q]).map strc := by
  subst hn
  rw [List.map_append, List.map_append, List.set_append]
  simp
theorem extract_one (l : List UInt8) (s : ByteArray) (hs : s = ⟨l.toArray⟩) (k : Nat) (h : k < l.length) : s.extract k (k + 1) = ⟨[l[k]].toArray⟩ := by
  subst hs
  apply ByteArray.ext
  simp [ByteArray.extract, ByteArray.copySlice]
  rw [List.drop_eq_getElem_cons h]
  rfl
theorem ba_snoc (p : List UInt8) (b : UInt8) : (⟨p.toArray⟩ : ByteArray) ++ ⟨[b].toArray⟩ = ⟨(p ++ [b]).toArray⟩ := by
  apply ByteArray.ext
  simp
/-- An own row of texts. -/
def RetWs (w : World) (ps : List (List UInt8)) (e : Ending) (w' : World) : Prop := ∃ v, e = .returned v ∧ Own w w' 9 1 v ps.length (ps.map strc)
end Go.Proofs.YtadenlhnfkccaaaGreatDoor

/- Texts cut at a sign, in plain Lean. No condition. -/
namespace Go.Proofs.YtadenlhnfkccaaaGreatDoor
open Go.RowKit
set_option linter.unusedVariables false
set_option linter.unusedSimpArgs false
def consC (b : UInt8) : List (List UInt8) → List (List UInt8)
  | [] => [[b]]
  | p :: ps => (b :: p) :: ps
/-- What stands between such signs. -/
def cutL (c : UInt8) : List UInt8 → List (List UInt8)
  | [] => [[]]
  | b :: t => if b = c then [] :: cutL c t else consC b (cutL c t)
theorem cut_ne (c : UInt8) : ∀ l, cutL c l ≠ []
  | [], h => by cases h
  | b :: t, h => by
    unfold cutL at h
    split at h
    · cases h
    · cases hp : cutL c t with
      | nil => exact cut_ne c t hp
      | cons p ps => rw [hp] at h; cases h
theorem cut_none (c : UInt8) : ∀ l : List UInt8, (∀ b ∈ l, b ≠ c) → cutL c l = [l]
  | [], _ => rfl
  | b :: t, h => by
    unfold cutL
    rw [if_neg (h b List.mem_cons_self), cut_none c t (fun x hx => h x (List.mem_cons_of_mem _ hx))]
    rfl
theorem cut_cut (c : UInt8) : ∀ (l : List UInt8) (i : Nat), l[i]? = some c → (∀ j, j < i → l[j]? ≠ some c) → cutL c l = l.take i :: cutL c (l.drop (i + 1))
  | [], i, h, _ => by simp at h
  | b :: t, 0, h, _ => by
    have : b = c := by simpa using h
    show (if b = c then [] :: cutL c t else consC b (cutL c t)) = _
    rw [if_pos this]
    rfl
  | b :: t, i + 1, h, hj => by
    have hb : b ≠ c := fun e => hj 0 (by omega) (by simp [e])
    have ih := cut_cut c t i (by simpa using h) (fun j hji => by have := hj (j + 1) (by omega); simpa using this)
    show (if b = c then [] :: cutL c t else consC b (cutL c t)) = _
    rw [if_neg hb, ih]
    rfl
theorem cut_index (c : UInt8) (l : List UInt8) (i : Int) (h : Lib.indexByte l c = i) : (i = -1 ∧ cutL c l = [l]) ∨ ∃ k : Nat, i = k ∧ k < l.length ∧ cutL c l = l.take k :: cutL c (l.drop (k + 1)) := by
  by_cases h0 : i < 0
  · have := Lib.indexByte_ge l c
    have hi : i = -1 := by omega
    subst hi
    left
    refine ⟨rfl, cut_none c l fun b hb e => ?_⟩
    subst e
    obtain ⟨k, hk, he⟩ := List.getElem_of_mem hb
    exact Lib.indexByte_none h k ((List.getElem?_eq_getElem hk).trans (by rw [he]))
  · right
    obtain ⟨k, rfl⟩ : ∃ k : Nat, i = k := ⟨i.toNat, by omega⟩
    obtain ⟨h1, h2⟩ := Lib.indexByte_some h
    exact ⟨k, rfl, (List.getElem?_eq_some_iff.1 h1).1, cut_cut c l k h1 h2⟩
/-- The reference's way: byte by byte. -/
def pushC (c : UInt8) (ps : List (List UInt8)) (b : UInt8) : List (List UInt8) := if b = c then ps ++ [[]] else ps.dropLast ++ [ps.getLastD [] ++ [b]]
theorem consC_push (c b x : UInt8) (hb : b ≠ c) (ps : List (List UInt8)) (hne : ps ≠ []) : consC b (pushC c ps x) = pushC c (consC b ps) x := by
  match ps, hne with
  | [p], _ =>
    unfold pushC
    by_cases hc : x = c
    · rw [if_pos hc, if_pos hc]; rfl
    · rw [if_neg hc, if_neg hc]; rfl
  | p :: q :: ps, _ =>
    unfold pushC
    by_cases hc : x = c
    · rw [if_pos hc, if_pos hc]; rfl
    · rw [if_neg hc, if_neg hc]
      simp [consC, List.dropLast, List.getLastD]
theorem cut_snoc (c : UInt8) : ∀ (l : List UInt8) (x : UInt8), cutL c (l ++ [x]) = pushC c (cutL c l) x
  | [], x => by
    show (if x = c then [] :: cutL c [] else consC x (cutL c [])) = _
    unfold pushC
    by_cases hc : x = c
    · rw [if_pos hc, if_pos hc]; rfl
    · rw [if_neg hc, if_neg hc]; rfl
  | b :: t, x => by
    show (if b = c then [] :: cutL c (t ++ [x]) else consC b (cutL c (t ++ [x]))) = pushC c (if b = c then [] :: cutL c t else consC b (cutL c t)) x
    rw [cut_snoc c t x]
    by_cases hb : b = c
    · rw [if_pos hb, if_pos hb]
      have hne := cut_ne c t
      unfold pushC
      by_cases hc : x = c
      · rw [if_pos hc, if_pos hc]; rfl
      · rw [if_neg hc, if_neg hc]
        cases hp : cutL c t with
        | nil => exact absurd hp hne
        | cons p ps => rfl
    · rw [if_neg hb, if_neg hb, consC_push c b x hb _ (cut_ne c t)]
theorem cut_snd (c : UInt8) : ∀ l : List UInt8, ∃ init z, cutL c l = init ++ [z] := fun l => by
  obtain ⟨init, z, h⟩ := List.eq_nil_or_concat (cutL c l) |>.resolve_left (cut_ne c l)
  exact ⟨init, z, by simpa using h⟩
theorem cut_size (c : UInt8) : ∀ l : List UInt8, (cutL c l).length ≤ l.length + 1 ∧ ∀ p ∈ cutL c l, p.length ≤ l.length
  | [] => ⟨by simp [cutL], by simp [cutL]⟩
  | b :: t => by
    obtain ⟨h1, h2⟩ := cut_size c t
    unfold cutL
    by_cases hb : b = c
    · rw [if_pos hb]
      refine ⟨by simp; exact h1, fun p hp => ?_⟩
      rcases List.mem_cons.1 hp with rfl | hp
      · simp
      · have := h2 p hp; simp; omega
    · rw [if_neg hb]
      cases hq : cutL c t with
      | nil => exact absurd hq (cut_ne c t)
      | cons q ps =>
        rw [hq] at h1 h2
        refine ⟨by show ((b :: q) :: ps).length ≤ _; simp at h1 ⊢; omega, fun p hp => ?_⟩
        have hp : p ∈ (b :: q) :: ps := hp
        rcases List.mem_cons.1 hp with rfl | hp
        · have := h2 q List.mem_cons_self; simp; omega
        · have := h2 p (List.mem_cons_of_mem _ hp); simp; omega
theorem push_here (c : UInt8) (init : List (List UInt8)) (z : List UInt8) : pushC c (init ++ [z]) c = (init ++ [z]) ++ [[]] := by unfold pushC; rw [if_pos rfl]
theorem push_else (c : UInt8) (init : List (List UInt8)) (z : List UInt8) (b : UInt8) (h : b ≠ c) : pushC c (init ++ [z]) b = init ++ [z ++ [b]] := by
  unfold pushC
  rw [if_neg h, List.dropLast_concat, List.getLastD_concat]
theorem take_textC (l : List UInt8) (s : ByteArray) (hs : s = ⟨l.toArray⟩) (k : Nat) : s.extract 0 k = ⟨(l.take k).toArray⟩ := by
  subst hs
  apply ByteArray.ext
  simp [ByteArray.extract, ByteArray.copySlice]
/-- The library's way. -/
theorem split_cut (c : UInt8) : ∀ (k : Nat) (s : ByteArray), Lib.countB s ⟨#[c]⟩ = k → (Lib.splitB ⟨#[c]⟩ 0 k s).map Value.string = (cutL c s.data.toList).map strc := by
  intro k
  induction k with
  | zero =>
    intro s hk
    have hix : Lib.indexB s ⟨#[c]⟩ = Lib.indexByte s.data.toList c := Lib.index_one s.data.toList c
    rcases cut_index c s.data.toList _ rfl with ⟨hi, hp⟩ | ⟨j, hi, hj, hp⟩
    · rw [hp]; rfl
    · rw [hi] at hix
      have := Lib.countB_hit s ⟨#[c]⟩ j (by simp [ByteArray.size]) hix
      omega
  | succ k ih =>
    intro s hk
    have hix : Lib.indexB s ⟨#[c]⟩ = Lib.indexByte s.data.toList c := Lib.index_one s.data.toList c
    rcases cut_index c s.data.toList _ rfl with ⟨hi, hp⟩ | ⟨j, hi, hj, hp⟩
    · rw [hi] at hix
      have := Lib.countB_miss s ⟨#[c]⟩ hix
      omega
    · rw [hi] at hix
      have hc := Lib.countB_hit s ⟨#[c]⟩ j (by simp [ByteArray.size]) hix
      rw [Lib.splitB_hit _ 0 k s j hix, hp, List.map_cons, List.map_cons, ih _ (by omega)]
      have e1 : (⟨#[c]⟩ : ByteArray).size = 1 := rfl
      have hs : s = ⟨s.data.toList.toArray⟩ := by cases s; rfl
      congr 1
      · show Value.string _ = strc _
        unfold strc
        rw [← take_textC _ s hs j]
        rfl
      · rw [e1, drop_text _ s hs (j + 1)]
end Go.Proofs.YtadenlhnfkccaaaGreatDoor

/- Bytes as text, in plain Lean. No condition. -/
namespace Go.Proofs.YtadenlhnfkccaaaGreatDoor
open Go.RowKit
set_option linter.unusedVariables false
set_option linter.unusedSimpArgs false
/-- The digit of a number below 16. -/
def hexD (n : Nat) : UInt8 := if n < 10 then UInt8.ofNat (48 + n) else UInt8.ofNat (87 + n)
def hexP (l : List UInt8) : List UInt8 := l.flatMap fun b => [hexD (b.toNat / 16), hexD (b.toNat % 16)]
/-- A digit's number; 16: it is none. -/
def hexV (c : UInt8) : Nat := if 48 ≤ c.toNat ∧ c.toNat ≤ 57 then c.toNat - 48 else if 97 ≤ c.toNat ∧ c.toNat ≤ 102 then c.toNat - 87 else 16
def hexG : List UInt8 → List UInt8
  | a :: b :: t => UInt8.ofNat (hexV a * 16 + hexV b) :: hexG t
  | _ => []
def hexOk (l : List UInt8) : Bool := l.all fun c => decide (hexV c < 16)
/-- Where the first sign stands that is none. -/
def hexAt : List UInt8 → Nat
  | [] => 0
  | c :: t => if hexV c < 16 then hexAt t + 1 else 0
/-- What Parse tells: the bytes, a place, a fault. -/
def hexR (l : List UInt8) : List UInt8 × Nat × Nat := if hexOk l = false then ([], hexAt l, 3) else if l.length % 2 = 1 then ([], l.length, 3) else (hexG l, 0, 0)
theorem hexV_le (c : UInt8) : hexV c ≤ 16 := by
  unfold hexV
  split
  · omega
  · split <;> omega
theorem hexP_snoc (l : List UInt8) (b : UInt8) : hexP (l ++ [b]) = hexP l ++ [hexD (b.toNat / 16), hexD (b.toNat % 16)] := by simp [hexP]
theorem hexP_len (l : List UInt8) : (hexP l).length = 2 * l.length := by
  induction l with
  | nil => rfl
  | cons b t ih => simp [hexP] at ih ⊢; omega
theorem hexAt_ok : ∀ {l : List UInt8} {k : Nat} (hk : k < l.length), hexOk (l.take k) = true → ¬ hexV l[k] < 16 → hexAt l = k ∧ hexOk l = false
  | c :: t, 0, _, _, h => by
    have h : ¬ hexV c < 16 := h
    refine ⟨if_neg h, ?_⟩
    unfold hexOk
    rw [List.all_cons, decide_eq_false h]
    rfl
  | c :: t, k + 1, hk, ho, h => by
    unfold hexOk at ho
    rw [List.take_succ_cons, List.all_cons, Bool.and_eq_true, decide_eq_true_iff] at ho
    obtain ⟨h1, h2⟩ := hexAt_ok (l := t) (k := k) (by simpa using hk) ho.2 (by simpa using h)
    refine ⟨?_, ?_⟩
    · show (if hexV c < 16 then hexAt t + 1 else 0) = _
      rw [if_pos ho.1, h1]
    · unfold hexOk at h2 ⊢
      rw [List.all_cons, h2, Bool.and_false]
theorem hexOk_snoc {l : List UInt8} {k : Nat} (hk : k < l.length) (h : hexOk (l.take k) = true) (hv : hexV l[k] < 16) : hexOk (l.take (k + 1)) = true := by
  unfold hexOk at h ⊢
  rw [List.take_succ_eq_append_getElem hk, List.all_append, h]
  simp [hv]
theorem hexG_snoc : ∀ (l : List UInt8) (a b : UInt8), l.length % 2 = 0 → hexG (l ++ [a, b]) = hexG l ++ [UInt8.ofNat (hexV a * 16 + hexV b)]
  | [], a, b, _ => rfl
  | [x], a, b, h => by simp at h
  | x :: y :: t, a, b, h => by
    have ih := hexG_snoc t a b (by simp at h; omega)
    show _ :: hexG (t ++ [a, b]) = _ :: hexG t ++ _
    rw [ih]
    rfl
theorem hexG_one : ∀ (l : List UInt8) (a : UInt8), l.length % 2 = 0 → hexG (l ++ [a]) = hexG l
  | [], a, _ => rfl
  | [x], a, h => by simp at h
  | x :: y :: t, a, h => by
    have ih := hexG_one t a (by simp at h; omega)
    show _ :: hexG (t ++ [a]) = _ :: hexG t
    rw [ih]
theorem hexG_len : ∀ l : List UInt8, (hexG l).length = l.length / 2
  | [] => rfl
  | [x] => by show 0 = 1 / 2; rfl
  | x :: y :: t => by
    show (hexG t).length + 1 = (t.length + 2) / 2
    rw [hexG_len t]; omega
theorem hexG_take2 {l : List UInt8} {k : Nat} (hk : k + 1 < l.length) (he : k % 2 = 0) : hexG (l.take (k + 2)) = hexG (l.take k) ++ [UInt8.ofNat (hexV l[k] * 16 + hexV l[k + 1])] := by
  rw [List.take_succ_eq_append_getElem (by omega : k + 1 < l.length), List.take_succ_eq_append_getElem (by omega : k < l.length), List.append_assoc]
  exact hexG_snoc _ _ _ (by rw [List.length_take]; omega)
theorem hexD_toNat {n : Nat} (h : n < 16) : ((hexD n).toNat : Int) = if n < 10 then 48 + (n : Int) else 87 + n := by
  unfold hexD
  split
  · rw [UInt8.toNat_ofNat_of_lt' (by show _ < 256; omega)]; omega
  · rw [UInt8.toNat_ofNat_of_lt' (by show _ < 256; omega)]; omega
theorem hexV_hexD {k : Nat} (h : k < 16) : hexV (hexD k) = k := by
  have hd := hexD_toNat h
  unfold hexV
  by_cases h10 : k < 10
  · rw [if_pos h10] at hd
    rw [if_pos (by omega)]; omega
  · rw [if_neg h10] at hd
    rw [if_neg (by omega), if_pos (by omega)]; omega
theorem hexD_hexV {c : UInt8} (h : hexV c < 16) : hexD (hexV c) = c := by
  have hd := hexD_toNat h
  apply UInt8.toNat_inj.1
  have hc := c.toNat_lt
  unfold hexV at h hd
  by_cases h1 : 48 ≤ c.toNat ∧ c.toNat ≤ 57
  · rw [if_pos h1] at h hd
    unfold hexV
    rw [if_pos h1]
    rw [if_pos (by omega)] at hd
    omega
  · rw [if_neg h1] at h hd
    by_cases h2 : 97 ≤ c.toNat ∧ c.toNat ≤ 102
    · rw [if_pos h2] at h hd
      unfold hexV
      rw [if_neg h1, if_pos h2]
      rw [if_neg (by omega)] at hd
      omega
    · rw [if_neg h2] at h; omega
theorem hexV_cases (c : UInt8) : (48 ≤ c.toNat ∧ c.toNat ≤ 57 ∧ hexV c = c.toNat - 48) ∨ (97 ≤ c.toNat ∧ c.toNat ≤ 102 ∧ hexV c = c.toNat - 87) ∨ (¬ (48 ≤ c.toNat ∧ c.toNat ≤ 57) ∧ ¬ (97 ≤ c.toNat ∧ c.toNat ≤ 102) ∧ hexV c = 16) := by
  by_cases h1 : 48 ≤ c.toNat ∧ c.toNat ≤ 57
  · exact .inl ⟨h1.1, h1.2, if_pos h1⟩
  · by_cases h2 : 97 ≤ c.toNat ∧ c.toNat ≤ 102
    · exact .inr (.inl ⟨h2.1, h2.2, by unfold hexV; rw [if_neg h1, if_pos h2]⟩)
    · exact .inr (.inr ⟨h1, h2, by unfold hexV; rw [if_neg h1, if_neg h2]⟩)
end Go.Proofs.YtadenlhnfkccaaaGreatDoor

namespace Go.Proofs.YtadenlhnfkccaaaGreatDoor

/-! ### digits, no program in sight -/
def isDig (c : UInt8) : Bool := decide (48 ≤ (c.toNat : Int)) && decide ((c.toNat : Int) ≤ 57)
def valL (l : List UInt8) : Nat := l.foldl (fun n c => n * 10 + (c.toNat - 48)) 0
def badL (l : List UInt8) : Bool := !(decide (1 ≤ l.length) && decide (l.length ≤ 18) && (decide (l.length ≤ 1) || bAt l 0 != 48) && l.all isDig)
def parseN (l : List UInt8) (most : Int) : Int := if badL l then 0 else if most < (valL l : Int) then 0 else valL l
def parseF (l : List UInt8) (most : Int) : Int := if badL l then 3 else if most < (valL l : Int) then 2 else 0

theorem valL_snoc (l : List UInt8) (c : UInt8) : valL (l ++ [c]) = valL l * 10 + (c.toNat - 48) := by simp [valL]
theorem dig_snoc0 (l : List UInt8) (k : Nat) (h : k < l.length) : l.take (k + 1) = l.take k ++ [l.getD k 0] := by
  rw [List.take_succ_eq_append_getElem h, List.getD_eq_getElem?_getD, List.getElem?_eq_getElem h]; rfl
theorem isDig_at (l : List UInt8) (k : Nat) : isDig (l.getD k 0) = (decide (48 ≤ bAt l k) && decide (bAt l k ≤ 57)) := rfl
theorem valL_take (l : List UInt8) (k : Nat) (h : k < l.length) (hd : 48 ≤ bAt l k) : (valL (l.take (k + 1)) : Int) = valL (l.take k) * 10 + (bAt l k - 48) := by
  rw [dig_snoc0 l k h, valL_snoc]; unfold bAt at *; omega
theorem all_take (l : List UInt8) (k : Nat) (h : k < l.length) (ha : (l.take k).all isDig = true) (hd : isDig (l.getD k 0) = true) : (l.take (k + 1)).all isDig = true := by
  rw [dig_snoc0 l k h, List.all_append, ha]; simpa using hd
theorem all_not (l : List UInt8) (k : Nat) (h : k < l.length) (hd : isDig (l.getD k 0) = false) : l.all isDig = false := by
  rw [List.all_eq_false]
  refine ⟨l.getD k 0, ?_, by rw [hd]; decide⟩
  rw [List.getD_eq_getElem?_getD, List.getElem?_eq_getElem h]
  exact List.getElem_mem h
theorem val_fold : ∀ (l : List UInt8) (n : Nat), l.all isDig = true → l.foldl (fun n c => n * 10 + (c.toNat - 48)) n < (n + 1) * 10 ^ l.length
  | [], n, _ => by simp
  | c :: l, n, h => by
    simp only [List.all_cons, Bool.and_eq_true] at h
    have hc : c.toNat ≤ 57 := by have := h.1; simp [isDig] at this; omega
    have h1 := val_fold l (n * 10 + (c.toNat - 48)) h.2
    rw [List.foldl_cons, List.length_cons, Nat.pow_succ]
    refine Nat.lt_of_lt_of_le h1 ?_
    rw [Nat.mul_comm (10 ^ l.length) 10, ← Nat.mul_assoc]
    exact Nat.mul_le_mul_right _ (by omega)
theorem valL_lt (l : List UInt8) (h : l.all isDig = true) : valL l < 10 ^ l.length := by
  have := val_fold l 0 h
  simpa [valL] using this
theorem valL_take_lt (l : List UInt8) (k : Nat) (hk : k ≤ 17) (h : k ≤ l.length) (ha : (l.take k).all isDig = true) : valL (l.take k) < 100000000000000000 := by
  have h1 := valL_lt _ ha
  rw [List.length_take, Nat.min_eq_left h] at h1
  have : 10 ^ k ≤ 10 ^ 17 := Nat.pow_le_pow_right (by decide) hk
  exact Nat.lt_of_lt_of_le h1 this
theorem bad_of (l : List UInt8) (h : l.length < 1 ∨ 18 < l.length ∨ (1 < l.length ∧ bAt l 0 = 48) ∨ l.all isDig = false) : badL l = true := by
  unfold badL
  rcases h with h | h | h | h
  · have : decide (1 ≤ l.length) = false := decide_eq_false (by omega)
    rw [this]; simp
  · have : decide (l.length ≤ 18) = false := decide_eq_false (by omega)
    rw [this]; simp
  · have e1 : decide (l.length ≤ 1) = false := decide_eq_false (by omega)
    have e2 : (bAt l 0 != 48) = false := by rw [h.2]; decide
    rw [e1, e2]; simp
  · rw [h]; simp
theorem good_of (l : List UInt8) (h1 : 1 ≤ l.length) (h2 : l.length ≤ 18) (h3 : l.length ≤ 1 ∨ bAt l 0 ≠ 48) (h4 : l.all isDig = true) : badL l = false := by
  unfold badL
  rw [h4, decide_eq_true h1, decide_eq_true h2]
  rcases h3 with h | h
  · rw [decide_eq_true h]; simp
  · have : (bAt l 0 != 48) = true := by simpa using h
    rw [this]; simp

/-! ### a number's digits -/
def printL (n : Int) : List UInt8 := if n < 0 then [] else Lib.decDigits n.toNat
theorem dec_small (u : Nat) (h : u < 10) : Lib.decDigits u = [UInt8.ofNat (48 + u)] := by rw [Lib.decDigits, dif_pos h]
theorem dec_big (u : Nat) (h : ¬ u < 10) : Lib.decDigits u = Lib.decDigits (u / 10) ++ Lib.decDigits (u % 10) := by
  rw [Lib.decDigits, dif_neg h, dec_small (u % 10) (by omega)]
theorem dig_nat (d : Nat) (h : d < 10) : (UInt8.ofNat (48 + d)).toNat = 48 + d := by
  rw [UInt8.toNat_ofNat']; omega
theorem dec_back (u : Nat) : valL (Lib.decDigits u) = u ∧ (Lib.decDigits u).all isDig = true ∧ 1 ≤ (Lib.decDigits u).length ∧ (10 ≤ u → 49 ≤ bAt (Lib.decDigits u) 0) ∧ (1 ≤ u → 10 ^ ((Lib.decDigits u).length - 1) ≤ u) ∧ (1 ≤ u → 49 ≤ bAt (Lib.decDigits u) 0) := by
  induction u using Nat.strongRecOn with
  | _ u ih =>
    by_cases h : u < 10
    · rw [dec_small u h]
      have e := dig_nat u h
      refine ⟨?_, ?_, by simp, fun h1 => by omega, fun h1 => by simpa using h1, fun h1 => ?_⟩
      · simp only [valL, List.foldl_cons, List.foldl_nil, e]; omega
      · simp only [List.all_cons, List.all_nil, Bool.and_true, isDig, e]; simp; omega
      · simp only [bAt, List.getD_cons_zero, e]; omega
    · obtain ⟨i1, i2, i3, i4, i5, i6⟩ := ih (u / 10) (by omega)
      have e := dig_nat (u % 10) (by omega)
      have hx : Lib.decDigits u = Lib.decDigits (u / 10) ++ [UInt8.ofNat (48 + u % 10)] := by rw [dec_big u h, dec_small (u % 10) (by omega)]
      have hb : bAt (Lib.decDigits u) 0 = bAt (Lib.decDigits (u / 10)) 0 := by
        rw [hx]; unfold bAt
        rw [List.getD_eq_getElem?_getD, List.getD_eq_getElem?_getD, List.getElem?_append_left (by omega)]
      refine ⟨?_, ?_, by rw [hx]; simp, fun _ => by rw [hb]; exact i6 (by omega), fun _ => ?_, fun _ => by rw [hb]; exact i6 (by omega)⟩
      · rw [hx, valL_snoc, i1, e]; omega
      · rw [hx, List.all_append, i2]; simp only [List.all_cons, List.all_nil, Bool.and_true, isDig, e]; simp; omega
      · rw [hx, List.length_append, List.length_singleton]
        obtain ⟨q, hq⟩ : ∃ q, (Lib.decDigits (u / 10)).length = q + 1 := ⟨_, (Nat.sub_add_cancel i3).symm⟩
        have := i5 (by omega)
        rw [hq] at this ⊢
        simp only [Nat.add_sub_cancel] at this ⊢
        rw [Nat.pow_succ]
        omega

/-- What is printed is read as it was. -/
theorem parse_print (k : Int) (h0 : 0 ≤ k) (h1 : k < 288230376151711744) : parseN (printL k) k = k ∧ parseF (printL k) k = 0 := by
  obtain ⟨u, rfl⟩ := Int.eq_ofNat_of_zero_le h0
  have e : printL (u : Int) = Lib.decDigits u := by unfold printL; rw [if_neg (by omega)]; rfl
  obtain ⟨i1, i2, i3, i4, i5, i6⟩ := dec_back u
  have hbad : badL (Lib.decDigits u) = false := by
    refine good_of _ i3 ?_ ?_ i2
    · rcases Nat.lt_or_ge 18 (Lib.decDigits u).length with h | h
      · by_cases hu : 1 ≤ u
        · have h2 := i5 hu
          have : 10 ^ 18 ≤ 10 ^ ((Lib.decDigits u).length - 1) := Nat.pow_le_pow_right (by decide) (by omega)
          have h3 : (10 : Nat) ^ 18 ≤ u := Nat.le_trans this h2
          have h4 : (10 : Nat) ^ 18 = 1000000000000000000 := by decide
          omega
        · rw [dec_small u (by omega)] at h; simp at h
      · exact h
    · by_cases hu : u < 10
      · left; rw [dec_small u hu]; simp
      · right; have := i4 (by omega); omega
  unfold parseN parseF
  rw [e, hbad, i1]
  simp
end Go.Proofs.YtadenlhnfkccaaaGreatDoor

/- Operations as lines, in plain Lean. No condition. -/
namespace Go.Proofs.YtadenlhnfkccaaaGreatDoor
open Go.RowKit
set_option linter.unusedVariables false
set_option linter.unusedSimpArgs false
/-- What an operation has. -/
structure OpD where
  k : Int
  g : List UInt8
  i : List UInt8
  e : Int
  s : Int
  n : Int
  v : Int
  x : List UInt8
def op0 : OpD := ⟨0, [], [], 0, 0, 0, 0, []⟩
def wAcc : List UInt8 := [97, 99, 99, 101, 112, 116, 101, 100]
def wOth : List UInt8 := [111, 116, 104, 101, 114]
def wNot : List UInt8 := [110, 111, 116, 104, 105, 110, 103]
def partT (l : List UInt8) : List UInt8 := if partL l = true then l else []
def countT (n : Int) : List UInt8 := if 1073741824 < n then [] else printL n
def sayT (n : Int) : List UInt8 := if n = 1 then wAcc else if n = 2 then wOth else if n = 3 then wNot else []
/-- What stands behind the word, by its sign. -/
def fieldL (o : OpD) (s : Nat) : List UInt8 :=
  if s = 103 then partT o.g else if s = 105 then partT o.i else if s = 101 then countT o.e else if s = 115 then countT o.s else if s = 110 then countT o.n
  else if s = 118 then sayT o.v else if s = 120 then (if o.x.length = 32 then hexP o.x else []) else []
def sayN (d : Int) (w : List UInt8) : Int := if w = wAcc then 1 else if w = wOth then 2 else if w = wNot then 3 else d
/-- An operation with a word read by its sign. -/
def readD (d : Int) (o : OpD) (s : Nat) (w : List UInt8) : OpD :=
  if s = 103 then { o with g := w } else if s = 105 then { o with i := w } else if s = 101 then { o with e := parseN w 1073741824 } else if s = 115 then { o with s := parseN w 1073741824 }
  else if s = 110 then { o with n := parseN w 1073741824 } else if s = 118 then { o with v := sayN d w } else if s = 120 then { o with x := (hexR w).1 } else o
def numS (s : Nat) : Bool := s == 101 || s == 115 || s == 110
/-- Is a word one of its sign? -/
def readB (o : OpD) (s : Nat) (w : List UInt8) : Bool := if numS s = true then parseF w 1073741824 == 0 else (!(w == []) && fieldL o s == w)
/-- The words, and the signs of what stands behind them. -/
def formW : Nat → List UInt8
  | 1 => [99, 114, 101, 97, 116, 101]
  | 2 => [110, 101, 120, 116]
  | 3 => [115, 116, 97, 103, 101]
  | 4 => [118, 101, 114, 100, 105, 99, 116]
  | 5 => [101, 120, 112, 111, 114, 116]
  | 6 => [99, 108, 111, 115, 101]
  | 7 => [107, 101, 121, 112, 117, 116]
  | 8 => [107, 101, 121, 116, 97, 107, 101]
  | 9 => [108, 111, 111, 107]
  | _ => []
def formS : Nat → List UInt8
  | 1 => [103, 115, 120]
  | 2 => [103, 101, 115, 110]
  | 3 => [103, 105, 120]
  | 4 => [103, 101, 105, 118]
  | 5 => [103, 101]
  | 6 => [103]
  | 7 => [105, 120]
  | 8 => [105]
  | 9 => [103]
  | _ => []
/-- The program's reading of words by signs. -/
def foldP (o : OpD) : List UInt8 → List (List UInt8) → Option OpD
  | [], _ => some o
  | s :: ss, w :: ws => if readB (readD 0 o s.toNat w) s.toNat w = true then foldP (readD 0 o s.toNat w) ss ws else none
  | _ :: _, [] => none
/-- The reference's. -/
def foldQ (o : OpD) (b : Bool) : List UInt8 → List (List UInt8) → OpD × Bool
  | [], _ => (o, b)
  | s :: ss, w :: ws => foldQ (readD o.v o s.toNat w) (b && readB (readD o.v o s.toNat w) s.toNat w) ss ws
  | _ :: _, [] => (o, b)
/-- The kind of a word; 10: it is none. -/
def kindL (w : List UInt8) : Nat := ((List.range 10).find? fun k => formW k == w && !(formW k == [])).getD 10
def tryL (k : Nat) (ws : List (List UInt8)) : Option OpD := if ws.length = 1 + (formS k).length then foldP { op0 with k := (k : Int) } (formS k) ws.tail else none
def opOf (l : List UInt8) : Option OpD := let k := kindL ((cutL 32 l).headD []); if k < 10 then tryL k (cutL 32 l) else none
def parseO (l : List UInt8) : OpD × Nat := match opOf l with
  | some o => (o, 0)
  | none => (op0, 3)
def sameO (a b : OpD) : Bool := a.k == b.k && a.g == b.g && a.i == b.i && a.e == b.e && a.s == b.s && a.n == b.n && a.v == b.v && a.x == b.x
/-- What stands for an operation before it is tried. -/
def lineL (o : OpD) : List UInt8 := if 1 ≤ o.k ∧ o.k < 10 then Lib.join (formW o.k.toNat :: (formS o.k.toNat).map fun s => fieldL o s.toNat) [32] else []
def printO (o : OpD) : List UInt8 × Nat := if (1 ≤ o.k ∧ o.k < 10) ∧ (parseO (lineL o)).2 = 0 ∧ sameO o (parseO (lineL o)).1 = true then (lineL o, 0) else ([], 2)
/-! ### both readings tell the same -/
theorem readD_v {o : OpD} {s : Nat} {w : List UInt8} {d : Int} (h : s ≠ 118) : (readD d o s w).v = o.v := by
  unfold readD
  split
  · rfl
  · split
    · rfl
    · split
      · rfl
      · split
        · rfl
        · split
          · rfl
          · split <;> rfl
theorem foldQ_false : ∀ (ss : List UInt8) (ws : List (List UInt8)) (o : OpD), (foldQ o false ss ws).2 = false
  | [], _, _ => rfl
  | s :: ss, w :: ws, o => by
    show (foldQ _ (false && _) ss ws).2 = false
    rw [Bool.false_and]
    exact foldQ_false ss ws _
  | _ :: _, [], _ => rfl
theorem foldQ_eq : ∀ (ss : List UInt8) (ws : List (List UInt8)) (o : OpD), o.v = 0 → (∀ s ∈ ss.dropLast, s ≠ 118) → ss.length = ws.length →
    match foldP o ss ws with
    | some o' => foldQ o true ss ws = (o', true)
    | none => (foldQ o true ss ws).2 = false
  | [], _, _, _, _, _ => rfl
  | s :: ss, w :: ws, o, hv, hs, hl => by
    have e1 : foldQ o true (s :: ss) (w :: ws) = foldQ (readD o.v o s.toNat w) (true && readB (readD o.v o s.toNat w) s.toNat w) ss ws := rfl
    have e2 : foldP o (s :: ss) (w :: ws) = if readB (readD 0 o s.toNat w) s.toNat w = true then foldP (readD 0 o s.toNat w) ss ws else none := rfl
    rw [e1, e2, hv, Bool.true_and]
    cases hb : readB (readD 0 o s.toNat w) s.toNat w with
    | false =>
      rw [if_neg (by decide)]
      exact foldQ_false _ _ _
    | true =>
      rw [if_pos rfl]
      match ss, ws, hs, hl with
      | [], _, _, _ => rfl
      | t :: ss, [], _, hl => simp at hl
      | t :: ss, x :: ws, hs, hl =>
        refine foldQ_eq (t :: ss) (x :: ws) _ ?_ ?_ (by simpa using hl)
        · rw [readD_v, hv]
          intro e
          exact hs s (by simp) (UInt8.toNat_inj.1 e)
        · exact fun y hy => hs y (by rw [List.dropLast_cons_cons]; exact List.mem_cons_of_mem _ hy)
  | _ :: _, [], _, _, _, hl => by simp at hl
end Go.Proofs.YtadenlhnfkccaaaGreatDoor
