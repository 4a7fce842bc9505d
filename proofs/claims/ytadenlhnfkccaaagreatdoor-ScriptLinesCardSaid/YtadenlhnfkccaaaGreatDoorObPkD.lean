/- Own texts of this claim, one behind the other. No condition. -/
import Derived.Test.YtadenlhnfkccaaaGreatDoorObPkA
import Derived.Test.YtadenlhnfkccaaaGreatDoorObPkB
import Derived.Test.YtadenlhnfkccaaaGreatDoorObPkC
import Derived.Lib.RuneCount
import Derived.Outline
import Derived.Lib.ConvBytes
import Derived.Laws.IdiomStrings
import Derived.Test.YtadenlhnfkccaaaGreatDoorRows
import Derived.ProofKit
import Derived.Lib.LaidTab
import Derived.Lib.ItoaNum
import Derived.Below

/- Names: a part, as the program says. No condition. -/
namespace Go.Proofs.YtadenlhnfkccaaaGreatDoor
open Go.RowKit
set_option linter.unusedVariables false
theorem size_of (l : List UInt8) : (⟨l.toArray⟩ : ByteArray).size = l.length := by simp [ByteArray.size]
theorem map_add {o : Option Nat} {a b : Nat} : (o.map (· + a)).map (· + b) = o.map (· + (b + a)) := by cases o <;> simp; omega
set_option maxHeartbeats 1000000 in
theorem part_any (l : List UInt8) (w : World) (hl : l.length < 9223372036854775807) : Calls Tryz.prog 59 #[.string ⟨l.toArray⟩] w fun e w' => e = .returned (.bool (partL l)) ∧ Gr w w' := by
  obtain ⟨r, hr⟩ : ∃ r, r = partL l := ⟨_, rfl⟩
  rw [← hr]
  have HR := Lib.hid hr
  obtain ⟨s, hs⟩ : ∃ s : ByteArray, s = ⟨l.toArray⟩ := ⟨_, rfl⟩
  rw [← hs]
  have hsz : s.size = l.length := by rw [hs]; exact size_of l
  have HS := Lib.hid hs; have HSZ := Lib.hid hsz
  clear hr hs hsz
  go_enter Tryz.func59, Tryz.ntmps59
  go_wp2_with fail
  go_loopw [3] (fun n w' => ∃ (pos acc : Nat), w' = w.iter s pos ∧ n = .int .i64 acc ∧ acc ≤ pos ∧ pos ≤ s.size ∧ runesN l = (runesN (l.drop pos)).map (· + acc)) (fun _ w' => s.size - w'.iterPos w.heap.size)
  case atStart => exact ⟨0, 0, rfl, rfl, Nat.le_refl _, Nat.zero_le _, by rw [List.drop_zero]; cases runesN l <;> rfl⟩
  case round =>
    obtain ⟨pos, acc, rfl, rfl, ha, hps, hrn⟩ := hrel
    have HRN := Lib.hid hrn; clear hrn
    have GI : Hid (∀ q, Gr w (w.iter s q)) := fun q => Gr.alloc w (.stringIter s q)
    by_cases hp : pos < s.size
    · have hnx : ∀ ty, (Instr.next (.pointer (some ⟨w.heap.size, 0, none⟩)) true ty).run Tryz.prog (w.iter s pos) = _ := fun ty => run_next_any w s pos ty hp
      have hd := decode_small l pos (by rw [← HSZ.out]; exact hp)
      rw [← HS.out] at hd
      have hne : l.drop pos ≠ [] := by
        intro e
        have := congrArg List.length e
        rw [List.length_drop] at this
        have := HSZ.out
        simp at *
        omega
      have hsm := Lib.hid (small_any (Utf8.decode s pos).1)
      generalize hdec : Utf8.decode s pos = dc at *
      obtain ⟨rn, wd⟩ := dc
      simp only at hd hsm hnx
      cases hb : smallR rn with
      | false =>
        rw [hb] at hd hsm
        rw [if_neg (by decide)] at hd
        have HF : Hid (r = false) := by
          show r = false
          rw [HR.out]
          unfold partL
          rw [HRN.out, runesN_stop hd hne]
          rfl
        clear hd hb hne hdec
        go_wp2_with fail
        refine (hsm.out _).mono ?_
        rintro e w1 ⟨rfl, h1⟩
        subst h1
        go_wp2_with fail
        go_ret
        exact ⟨by rw [HF.out]; rfl, GI.out _⟩
      | true =>
        rw [hb] at hd hsm
        rw [if_pos rfl] at hd
        have hwp : 0 < wd := by have := Lib.decode_width_pos s pos hp; rw [hdec] at this; exact this
        obtain ⟨h3, h4, h5⟩ := runesN_step hd hwp
        rw [List.drop_drop] at h5
        rw [List.length_drop] at h3
        have HN2 : Hid (runesN l = (runesN (l.drop (pos + wd))).map (· + (acc + 1))) := by
          show _ = _
          rw [HRN.out, h5, map_add]
        have hpw : pos + wd ≤ s.size := by rw [HSZ.out]; have := HSZ.out; omega
        have hz := HSZ.out
        clear hd hb hne hdec h3 h5
        go_wp2_with fail
        refine (hsm.out _).mono ?_
        rintro e w1 ⟨rfl, h1⟩
        subst h1
        go_wp2_with fail
        go_roundw
        case rel => exact ⟨pos + wd, acc + 1, rfl, by go_num, by omega, hpw, HN2.out⟩
        case measure => simp; omega
    · have hnx : ∀ ty, (Instr.next (.pointer (some ⟨w.heap.size, 0, none⟩)) true ty).run Tryz.prog (w.iter s pos) = _ := fun ty => run_next_end w s pos ty hp
      have hpe : pos = l.length := by have := HSZ.out; omega
      have HE : Hid (r = (decide (1 ≤ acc) && decide (acc ≤ 8))) := by
        show r = _
        rw [HR.out]
        unfold partL
        rw [HRN.out, hpe, List.drop_length]
        simp [runesN]
      clear hpe
      by_cases h1 : acc < 1
      · have HF : Hid (r = false) := by show r = false; rw [HE.out]; simp; omega
        go_wp2_with fail
        go_ret
        exact ⟨by rw [HF.out]; rfl, GI.out _⟩
      by_cases h8 : acc ≤ 8
      · have HF : Hid (r = true) := by show r = true; rw [HE.out]; simp; omega
        have t8 : decide ((acc : Int) ≤ 8) = true := decide_eq_true (by omega)
        go_wp2_with fail
        go_ret
        exact ⟨by rw [HF.out]; rfl, GI.out _⟩
      · have HF : Hid (r = false) := by show r = false; rw [HE.out]; simp; omega
        have t8 : decide ((acc : Int) ≤ 8) = false := decide_eq_false (by omega)
        go_wp2_with fail
        go_ret
        exact ⟨by rw [HF.out]; rfl, GI.out _⟩
end Go.Proofs.YtadenlhnfkccaaaGreatDoor

namespace Go.Proofs.YtadenlhnfkccaaaGreatDoor
open Go.RowKit
set_option linter.unusedVariables false

/-! ### '[]byte(s)' and 's[i]' -/
theorem conv_bytes {P : Program} (s : ByteArray) (t : TypeId) (hs : P.underlying 9 = some .string) (hd : P.underlying t = some (.slice 5)) (he : P.underlying 5 = some (.int .u8)) (w : World) :
    ∃ c w1, (convert 9 t (.string s)).run P w = .ok (.slice (some ⟨w.heap.size, 0, none⟩) s.size c) w1 ∧ (∀ k, k < s.size → w1.cell? ⟨w.heap.size, k, none⟩ = some (.int .u8 (bAt s.data.toList k))) ∧ Below w.heap.size w w1 ∧ s.size ≤ c := by
  refine ⟨_, _, Lib.run_convert_string_bytes w 9 t 5 s hs hd he, fun k hk => ?_, ?_, ?_⟩
  · exact Lib.bytesWorld_cell w 5 s k hk
  · have h1 := run_bytes_of_string (P := P) w 9 t 5 s hs hd he
    have h2 := Lib.run_convert_string_bytes (P := P) w 9 t 5 s hs hd he
    rw [h1] at h2
    injection h2 with _ h3
    rw [← h3]
    exact ((Below.refl _ _).drew).alloc (Nat.le_refl _) _
  · exact grownCap_ge _ _ _ _

theorem str_at (s : ByteArray) (k : Nat) (h : k < s.size) : ((s[k]'h).toNat : Int) = bAt s.data.toList k := by
  unfold bAt
  rw [List.getD_eq_getElem?_getD, Array.getElem?_toList, Array.getElem?_eq_getElem (show k < s.data.size from h)]
  rfl

set_option maxHeartbeats 400000 in
theorem refParse_any (s : ByteArray) (l : List UInt8) (most : Int) (w : World) (hS : s.data.toList = l) (hl : s.size ≤ 100000) :
    Calls Tryz.prog 64 #[.string s, .int .i64 most] w fun e w' => e = .returned (.tuple #[.int .i64 (parseN l most), .int .i64 (parseF l most)]) ∧ ∃ k, w' = w.drewN k := by
  have hsz : l.length = s.size := by rw [← hS]; exact Array.length_toList
  have hat : ∀ k (h : k < s.size), ((s[k]'h).toNat : Int) = bAt l k := fun k h => by rw [str_at, hS]
  have bad : badL l = true → parseN l most = 0 ∧ parseF l most = 3 := fun h => by simp [parseN, parseF, h]
  have HS := Lib.hid hS; clear hS
  have HZ := Lib.hid hsz; clear hsz
  have HBD := Lib.hid bad; clear bad
  have HAT := Lib.hid hat; clear hat
  by_cases h1 : s.size < 1
  · have t1 : decide ((s.size : Int) < 1) = true := by simp; omega
    have HB := Lib.hid (HBD.out (bad_of l (by have := HZ.out; omega)))
    go_enter Tryz.func64, Tryz.ntmps64
    go_wp2
    go_ret2
    exact ⟨by rw [HB.out.1, HB.out.2]; rfl, 0, rfl⟩
  have t1 : decide ((s.size : Int) < 1) = false := by simp; omega
  by_cases h2 : 18 < s.size
  · have t2 : decide (18 < (s.size : Int)) = true := by simp; omega
    have HB := Lib.hid (HBD.out (bad_of l (by have := HZ.out; omega)))
    go_enter Tryz.func64, Tryz.ntmps64
    go_wp2
    go_ret2
    exact ⟨by rw [HB.out.1, HB.out.2]; rfl, 0, rfl⟩
  have t2 : decide (18 < (s.size : Int)) = false := by simp; omega
  have hat0 := HAT.out 0 (by omega)
  by_cases h3 : 1 < s.size ∧ bAt l 0 = 48
  · have t3 : decide (1 < (s.size : Int)) = true := by simp; omega
    have t4 : (bAt l 0 == 48) = true := by simp [h3.2]
    have HB := Lib.hid (HBD.out (bad_of l (by have := HZ.out; omega)))
    have g0 : 0 < s.size := by omega
    clear h3
    go_enter Tryz.func64, Tryz.ntmps64
    go_wp2
    go_ret2
    exact ⟨by rw [HB.out.1, HB.out.2]; rfl, 0, rfl⟩
  have fin : ∀ wr q, wr = w.drewN q → l.all isDig = true → parseN l most = (if most < (valL l : Int) then 0 else (valL l : Int)) ∧ parseF l most = (if most < (valL l : Int) then 2 else 0) := by
    intro wr q _ ha
    have hb : badL l = false := good_of l (by have := HZ.out; omega) (by have := HZ.out; omega) (by have := HZ.out; omega) ha
    simp [parseN, parseF, hb]
  have HF := Lib.hid fin; clear fin
  have g0 : 0 < s.size := by omega
  have h3' : (1 < (s.size : Int) && bAt l 0 == 48) = false := by simp; omega
  go_enter Tryz.func64, Tryz.ntmps64
  by_cases h4 : 1 < s.size
  all_goals
    have t3 : decide (1 < (s.size : Int)) = decide (1 < s.size) := decide_eq_decide.2 (by omega)
    simp only [h4, decide_true, decide_false] at t3
    try have t4 : (bAt l 0 == 48) = false := by simp; omega
    go_wp2
    go_loopw [6, 7] (fun a i wr => ∃ k q : Nat, k ≤ s.size ∧ i = .int .i64 k ∧ a = .int .i64 (valL (l.take k)) ∧ wr = w.drewN q ∧ (l.take k).all isDig = true) (fun _ i _ => s.size - (intOf i).toNat)
    case atStart => exact ⟨0, 0, Nat.zero_le _, rfl, rfl, rfl, rfl⟩
    case round =>
      obtain ⟨k, q, hk, rfl, rfl, rfl, hall⟩ := hrel
      have HAL := Lib.hid hall; clear hall
      clear t1 t2 t3 hat0
      by_cases hlt : k < s.size
      · have hat := HAT.out k hlt
        have hb2 := bAt_nn l k
        have hb3 := bAt_lt l k
        by_cases d1 : bAt l k < 48
        · have e1 : decide (bAt l k < 48) = true := by simpa using d1
          have HB := Lib.hid (HBD.out (bad_of l (.inr (.inr (.inr (all_not l k (by rw [HZ.out]; exact hlt) (by rw [isDig_at]; simp; omega)))))))
          go_wp2
          go_ret2
          exact ⟨by rw [HB.out.1, HB.out.2]; rfl, _, rfl⟩
        have e1 : decide (bAt l k < 48) = false := by simpa using d1
        by_cases d2 : 57 < bAt l k
        · have e2 : decide (57 < bAt l k) = true := by simpa using d2
          have HB := Lib.hid (HBD.out (bad_of l (.inr (.inr (.inr (all_not l k (by rw [HZ.out]; exact hlt) (by rw [isDig_at]; simp; omega)))))))
          go_wp2
          go_ret2
          exact ⟨by rw [HB.out.1, HB.out.2]; rfl, _, rfl⟩
        have e2 : decide (57 < bAt l k) = false := by simpa using d2
        have hv := valL_take_lt l k (by omega) (by rw [HZ.out]; exact hk) HAL.out
        have HN := Lib.hid (valL_take l k (by rw [HZ.out]; exact hlt) (by omega))
        have HA2 := Lib.hid (all_take l k (by rw [HZ.out]; exact hlt) HAL.out (by rw [isDig_at]; simp; omega))
        go_wp2
        go_roundw
        case rel => exact ⟨k + 1, _, by omega, by go_num, by rw [HN.out], rfl, HA2.out⟩
        case measure => simp [intOf]; omega
      · obtain rfl : k = s.size := by omega
        have ha : l.all isDig = true := by have h := HAL.out; rwa [List.take_of_length_le (by rw [HZ.out]; omega)] at h
        have HT : Hid (l.take s.size = l) := List.take_of_length_le (by rw [HZ.out]; omega)
        have HV : Hid (parseN l most = (if most < (valL (l.take s.size) : Int) then 0 else (valL (l.take s.size) : Int)) ∧ parseF l most = (if most < (valL (l.take s.size) : Int) then 2 else 0)) := by rw [HT.out]; exact HF.out _ q rfl ha
        clear ha
        by_cases hm : most < (valL (l.take s.size) : Int)
        · have HP : Hid (parseN l most = 0 ∧ parseF l most = 2) := by rw [HV.out.1, HV.out.2, if_pos hm, if_pos hm]; exact ⟨rfl, rfl⟩
          have tm : decide (most < (valL (l.take s.size) : Int)) = true := decide_eq_true hm
          go_wp2
          go_ret2
          exact ⟨by rw [HP.out.1, HP.out.2]; rfl, _, rfl⟩
        · have HP : Hid (parseN l most = (valL (l.take s.size) : Int) ∧ parseF l most = 0) := by rw [HV.out.1, HV.out.2, if_neg hm, if_neg hm]; exact ⟨rfl, rfl⟩
          have tm : decide (most < (valL (l.take s.size) : Int)) = false := decide_eq_false hm
          go_wp2
          go_ret2
          exact ⟨by rw [HP.out.1, HP.out.2]; rfl, _, rfl⟩

theorem dig_any (c : Int) (w : World) : Calls Tryz.prog 82 #[.int .u8 c] w fun e w' => e = .returned (.bool (decide (48 ≤ c) && decide (c ≤ 57))) ∧ w = w' := by
  by_cases h : 48 ≤ c
  · have e1 : decide (48 ≤ c) = true := decide_eq_true h
    go_enter Tryz.func82, Tryz.ntmps82
    go_wp2
    go_ret
    exact ⟨ret_bool (by rw [e1]; simp), rfl⟩
  · have e1 : decide (48 ≤ c) = false := decide_eq_false h
    go_enter Tryz.func82, Tryz.ntmps82
    go_wp2
    go_ret
    exact ⟨ret_bool rfl, rfl⟩

set_option maxHeartbeats 400000 in
theorem parse_any (s : ByteArray) (l : List UInt8) (most : Int) (w : World) (hS : s.data.toList = l) (hl : s.size ≤ 100000) :
    Calls Tryz.prog 57 #[.string s, .int .i64 most] w fun e w' => e = .returned (.tuple #[.int .i64 (parseN l most), .int .i64 (parseF l most)]) ∧ Below w.heap.size w w' := by
  have hsz : l.length = s.size := by rw [← hS]; exact Array.length_toList
  have hat : ∀ k (h : k < s.size), ((s[k]'h).toNat : Int) = bAt l k := fun k h => by rw [str_at, hS]
  have bad : badL l = true → parseN l most = 0 ∧ parseF l most = 3 := fun h => by simp [parseN, parseF, h]
  have HS := Lib.hid hS; clear hS
  have HZ := Lib.hid hsz; clear hsz
  have HBD := Lib.hid bad; clear bad
  have HAT := Lib.hid hat; clear hat
  have hdat : ∀ a : Array UInt8, s.data = a → s = ⟨a⟩ := fun a h => by cases s; simp at h; rw [h]
  by_cases h1 : s.size = 0
  · obtain rfl : s = ⟨#[]⟩ := hdat _ (Array.eq_empty_of_size_eq_zero h1)
    have HB := Lib.hid (HBD.out (bad_of l (by have := HZ.out; omega)))
    go_enter Tryz.func57, Tryz.ntmps57
    go_wp2
    go_ret2
    exact ⟨by rw [HB.out.1, HB.out.2]; rfl, Below.refl _ _⟩
  have t0 : (s.toList == ([] : List UInt8)) = false := by
    rw [beq_eq_false_iff_ne]; intro h
    have h' := HZ.out
    rw [← HS.out, ← ByteArray.toList_eq, h] at h'
    exact h1 h'.symm
  by_cases h2 : 18 < s.size
  · have t2 : decide (18 < (s.size : Int)) = true := by simp; omega
    have HB := Lib.hid (HBD.out (bad_of l (by have := HZ.out; omega)))
    clear hdat
    go_enter Tryz.func57, Tryz.ntmps57
    go_wp2
    go_ret2
    exact ⟨by rw [HB.out.1, HB.out.2]; rfl, Below.refl _ _⟩
  have t2 : decide (18 < (s.size : Int)) = false := by simp; omega
  have hat0 := HAT.out 0 (by omega)
  have g0 : 0 < s.size := by omega
  by_cases h3 : 1 < s.size ∧ bAt l 0 = 48
  · have t4 : (bAt l 0 == 48) = true := by simp [h3.2]
    have t5 : (s.toList == ([48] : List UInt8)) = false := by
      rw [beq_eq_false_iff_ne]; intro h
      have h' := HZ.out
      rw [← HS.out, ← ByteArray.toList_eq, h] at h'
      have := h3.1
      simp at h'
      omega
    have HB := Lib.hid (HBD.out (bad_of l (by have := HZ.out; omega)))
    clear h3 hdat
    go_enter Tryz.func57, Tryz.ntmps57
    go_wp2
    go_ret2
    exact ⟨by rw [HB.out.1, HB.out.2]; rfl, Below.refl _ _⟩
  have t5 : bAt l 0 = 48 → (s.toList == ([48] : List UInt8)) = true := by
    intro h
    rw [beq_iff_eq, ByteArray.toList_eq, HS.out]
    have hz := HZ.out
    have hno : ¬ (1 < l.length ∧ bAt l 0 = 48) := by rw [hz]; exact h3
    have hnz : l.length ≠ 0 := by rw [hz]; exact h1
    clear hz
    match l, h, hno, hnz with
    | [c], h, _, _ =>
      have : c = 48 := by
        apply UInt8.toNat_inj.1
        have h' : (c.toNat : Int) = 48 := h
        have : (48 : UInt8).toNat = 48 := rfl
        omega
      rw [this]
    | [], _, _, hn => simp at hn
    | _ :: _ :: _, h, hno, _ => exfalso; exact hno ⟨by simp, h⟩
  have HF : Hid (l.all isDig = true → parseN l most = (if most < (valL l : Int) then 0 else (valL l : Int)) ∧ parseF l most = (if most < (valL l : Int) then 2 else 0)) := by
    intro ha
    have hb : badL l = false := good_of l (by have := HZ.out; omega) (by have := HZ.out; omega) (by have := HZ.out; omega) ha
    simp [parseN, parseF, hb]
  obtain ⟨c, w1, hcv, hcell, hbel, hcap⟩ := conv_bytes (P := Tryz.prog) s 22 Tryz.underlying9 Tryz.underlying22 Tryz.underlying5 w
  rw [HS.out] at hcell
  have HC := Lib.hid hcell; clear hcell hdat
  have HBL := Lib.hid hbel; clear hbel
  have HT5 := Lib.hid t5; clear t5
  go_enter Tryz.func57, Tryz.ntmps57
  by_cases h4 : bAt l 0 = 48
  all_goals
    have t4 : (bAt l 0 == 48) = decide (bAt l 0 = 48) := rfl
    simp only [h4, decide_true, decide_false] at t4
    try have t6 := HT5.out h4
    try rw [h4] at hat0
    clear h3
    go_wp2
    clear t0 t2 t4 hat0 hcv
    try clear t6
    go_loopw [4, 28] (fun a i wr => ∃ k : Nat, k ≤ s.size ∧ i = .int .i64 k ∧ a = .int .i64 (valL (l.take k)) ∧ wr = w1 ∧ (l.take k).all isDig = true) (fun _ i _ => s.size - (intOf i).toNat)
    case atStart => exact ⟨0, Nat.zero_le _, rfl, rfl, rfl, rfl⟩
    case round =>
      obtain ⟨k, hk, rfl, rfl, rfl, hall⟩ := hrel
      have HAL := Lib.hid hall; clear hall
      by_cases hlt : k < s.size
      · have hcell := HC.out k hlt
        have hb2 := bAt_nn l k
        have hb3 := bAt_lt l k
        by_cases d : 48 ≤ bAt l k ∧ bAt l k ≤ 57
        · have e1 : (decide (48 ≤ bAt l k) && decide (bAt l k ≤ 57)) = true := by simp; exact d
          have hv := valL_take_lt l k (by omega) (by rw [HZ.out]; exact hk) HAL.out
          have HN := Lib.hid (valL_take l k (by rw [HZ.out]; exact hlt) (by omega))
          have HA2 := Lib.hid (all_take l k (by rw [HZ.out]; exact hlt) HAL.out (by rw [isDig_at]; exact e1))
          obtain ⟨d1, d2⟩ := d
          go_wp2_with (go_at_call 82; refine (dig_any _ _).mono ?_; rintro e w' ⟨rfl, rfl⟩)
          go_roundw
          case rel => exact ⟨k + 1, by omega, by go_num, by rw [HN.out], by first | trivial | rfl, HA2.out⟩
          case measure => simp [intOf]; omega
        · have e1 : (decide (48 ≤ bAt l k) && decide (bAt l k ≤ 57)) = false := by simp; omega
          have HB := Lib.hid (HBD.out (bad_of l (.inr (.inr (.inr (all_not l k (by rw [HZ.out]; exact hlt) (by rw [isDig_at]; exact e1)))))))
          clear d
          go_wp2_with (go_at_call 82; refine (dig_any _ _).mono ?_; rintro e w' ⟨rfl, rfl⟩)
          go_ret2
          exact ⟨by rw [HB.out.1, HB.out.2]; rfl, HBL.out⟩
      · obtain rfl : k = s.size := by omega
        have ha : l.all isDig = true := by have h := HAL.out; rwa [List.take_of_length_le (by rw [HZ.out]; omega)] at h
        have HT : Hid (l.take s.size = l) := List.take_of_length_le (by rw [HZ.out]; omega)
        have HV : Hid (parseN l most = (if most < (valL (l.take s.size) : Int) then 0 else (valL (l.take s.size) : Int)) ∧ parseF l most = (if most < (valL (l.take s.size) : Int) then 2 else 0)) := by rw [HT.out]; exact HF.out ha
        clear ha
        by_cases hm : most < (valL (l.take s.size) : Int)
        · have HP : Hid (parseN l most = 0 ∧ parseF l most = 2) := by rw [HV.out.1, HV.out.2, if_pos hm, if_pos hm]; exact ⟨rfl, rfl⟩
          have tm : decide (most < (valL (l.take s.size) : Int)) = true := decide_eq_true hm
          go_wp2
          go_ret2
          exact ⟨by rw [HP.out.1, HP.out.2]; rfl, HBL.out⟩
        · have HP : Hid (parseN l most = (valL (l.take s.size) : Int) ∧ parseF l most = 0) := by rw [HV.out.1, HV.out.2, if_neg hm, if_neg hm]; exact ⟨rfl, rfl⟩
          have tm : decide (most < (valL (l.take s.size) : Int)) = false := decide_eq_false hm
          go_wp2
          go_ret2
          exact ⟨by rw [HP.out.1, HP.out.2]; rfl, HBL.out⟩
end Go.Proofs.YtadenlhnfkccaaaGreatDoor

namespace Go.Proofs.YtadenlhnfkccaaaGreatDoor
open Go.RowKit
def Pow10 (w : World) : Prop := Lib.TabIs Tryz.prog w "internal/strconv.uint64pow10" .u64 Lib.pow10Tab
theorem Pow10.mono {w w' : World} (h : Pow10 w) (hb : Below w.heap.size w w') : Pow10 w' := by
  unfold Pow10 Lib.TabIs World.var? at *
  rw [show Tryz.prog.globalNamed "internal/strconv.uint64pow10" = some 3 by kernel_rfl] at h ⊢
  simp only [Option.bind_some] at h ⊢
  have hlt : 3 < w.heap.size := by
    rcases Nat.lt_or_ge 3 w.heap.size with h' | h'
    · exact h'
    · simp [Array.getElem?_eq_none h'] at h
  rw [hb.block _ hlt]
  exact h
theorem Pow10.lt {w : World} (h : Pow10 w) : 3 < w.heap.size := by
  unfold Pow10 Lib.TabIs World.var? at h
  rw [show Tryz.prog.globalNamed "internal/strconv.uint64pow10" = some 3 by kernel_rfl] at h
  simp only [Option.bind_some] at h
  rcases Nat.lt_or_ge 3 w.heap.size with h' | h'
  · exact h'
  · simp [Array.getElem?_eq_none h'] at h
theorem Pow10.of_block {w w' : World} (h : Pow10 w) (e : w'.heap[3]? = w.heap[3]?) : Pow10 w' := by
  unfold Pow10 Lib.TabIs World.var? at *
  rw [show Tryz.prog.globalNamed "internal/strconv.uint64pow10" = some 3 by kernel_rfl] at h ⊢
  simp only [Option.bind_some] at h ⊢
  rw [e]; exact h
end Go.Proofs.YtadenlhnfkccaaaGreatDoor
