/- Names: a part, as the program says. No condition. -/
import Derived.Test.YtadenlhnfkccaaaDoorObNameW
import Derived.Lib.RuneCount
import Derived.Outline
namespace Go.Proofs.YtadenlhnfkccaaaDoor
open Go.RowKit
set_option linter.unusedVariables false
theorem size_of (l : List UInt8) : (⟨l.toArray⟩ : ByteArray).size = l.length := by simp [ByteArray.size]
theorem map_add {o : Option Nat} {a b : Nat} : (o.map (· + a)).map (· + b) = o.map (· + (b + a)) := by cases o <;> simp; omega
set_option maxHeartbeats 1000000 in
theorem part_any (l : List UInt8) (w : World) (hl : l.length < 9223372036854775807) : Calls Tryd.prog 69 #[.string ⟨l.toArray⟩] w fun e w' => e = .returned (.bool (partL l)) ∧ Gr w w' := by
  obtain ⟨r, hr⟩ : ∃ r, r = partL l := ⟨_, rfl⟩
  rw [← hr]
  have HR := Lib.hid hr
  obtain ⟨s, hs⟩ : ∃ s : ByteArray, s = ⟨l.toArray⟩ := ⟨_, rfl⟩
  rw [← hs]
  have hsz : s.size = l.length := by rw [hs]; exact size_of l
  have HS := Lib.hid hs; have HSZ := Lib.hid hsz
  clear hr hs hsz
  go_enter Tryd.func69, Tryd.ntmps69
  go_wp2_with fail
  go_loopw [3] (fun n w' => ∃ (pos acc : Nat), w' = w.iter s pos ∧ n = .int .i64 acc ∧ acc ≤ pos ∧ pos ≤ s.size ∧ runesN l = (runesN (l.drop pos)).map (· + acc)) (fun _ w' => s.size - w'.iterPos w.heap.size)
  case atStart => exact ⟨0, 0, rfl, rfl, Nat.le_refl _, Nat.zero_le _, by rw [List.drop_zero]; cases runesN l <;> rfl⟩
  case round =>
    obtain ⟨pos, acc, rfl, rfl, ha, hps, hrn⟩ := hrel
    have HRN := Lib.hid hrn; clear hrn
    have GI : Hid (∀ q, Gr w (w.iter s q)) := fun q => Gr.alloc w (.stringIter s q)
    by_cases hp : pos < s.size
    · have hnx : ∀ ty, (Instr.next (.pointer (some ⟨w.heap.size, 0, none⟩)) true ty).run Tryd.prog (w.iter s pos) = _ := fun ty => run_next_any w s pos ty hp
      have hd := decode_small l pos (by rw [← HSZ.out]; exact hp)
      rw [← HS.out] at hd
      have hne : l.drop pos ≠ [] := by
        intro e
        have := congrArg List.length e
        rw [List.length_drop] at this
        have := HSZ.out
        simp at *
        omega
      have hsm := Lib.hid (small_any (Utf8.decode s pos).1)
      generalize hdec : Utf8.decode s pos = dc at *
      obtain ⟨rn, wd⟩ := dc
      simp only at hd hsm hnx
      cases hb : smallR rn with
      | false =>
        rw [hb] at hd hsm
        rw [if_neg (by decide)] at hd
        have HF : Hid (r = false) := by
          show r = false
          rw [HR.out]
          unfold partL
          rw [HRN.out, runesN_stop hd hne]
          rfl
        clear hd hb hne hdec
        go_wp2_with fail
        refine (hsm.out _).mono ?_
        rintro e w1 ⟨rfl, h1⟩
        subst h1
        go_wp2_with fail
        go_ret
        exact ⟨by rw [HF.out]; rfl, GI.out _⟩
      | true =>
        rw [hb] at hd hsm
        rw [if_pos rfl] at hd
        have hwp : 0 < wd := by have := Lib.decode_width_pos s pos hp; rw [hdec] at this; exact this
        obtain ⟨h3, h4, h5⟩ := runesN_step hd hwp
        rw [List.drop_drop] at h5
        rw [List.length_drop] at h3
        have HN2 : Hid (runesN l = (runesN (l.drop (pos + wd))).map (· + (acc + 1))) := by
          show _ = _
          rw [HRN.out, h5, map_add]
        have hpw : pos + wd ≤ s.size := by rw [HSZ.out]; have := HSZ.out; omega
        have hz := HSZ.out
        clear hd hb hne hdec h3 h5
        go_wp2_with fail
        refine (hsm.out _).mono ?_
        rintro e w1 ⟨rfl, h1⟩
        subst h1
        go_wp2_with fail
        go_roundw
        case rel => exact ⟨pos + wd, acc + 1, rfl, by go_num, by omega, hpw, HN2.out⟩
        case measure => simp; omega
    · have hnx : ∀ ty, (Instr.next (.pointer (some ⟨w.heap.size, 0, none⟩)) true ty).run Tryd.prog (w.iter s pos) = _ := fun ty => run_next_end w s pos ty hp
      have hpe : pos = l.length := by have := HSZ.out; omega
      have HE : Hid (r = (decide (1 ≤ acc) && decide (acc ≤ 8))) := by
        show r = _
        rw [HR.out]
        unfold partL
        rw [HRN.out, hpe, List.drop_length]
        simp [runesN]
      clear hpe
      by_cases h1 : acc < 1
      · have HF : Hid (r = false) := by show r = false; rw [HE.out]; simp; omega
        go_wp2_with fail
        go_ret
        exact ⟨by rw [HF.out]; rfl, GI.out _⟩
      by_cases h8 : acc ≤ 8
      · have HF : Hid (r = true) := by show r = true; rw [HE.out]; simp; omega
        have t8 : decide ((acc : Int) ≤ 8) = true := decide_eq_true (by omega)
        go_wp2_with fail
        go_ret
        exact ⟨by rw [HF.out]; rfl, GI.out _⟩
      · have HF : Hid (r = false) := by show r = false; rw [HE.out]; simp; omega
        have t8 : decide ((acc : Int) ≤ 8) = false := decide_eq_false (by omega)
        go_wp2_with fail
        go_ret
        exact ⟨by rw [HF.out]; rfl, GI.out _⟩
end Go.Proofs.YtadenlhnfkccaaaDoor
