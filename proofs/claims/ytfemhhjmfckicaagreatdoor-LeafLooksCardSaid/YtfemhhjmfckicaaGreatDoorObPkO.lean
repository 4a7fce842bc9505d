/- Own texts of this claim, one behind the other. No condition. -/
import Derived.Test.YtfemhhjmfckicaaGreatDoorObPkN
import Derived.Outline

/- Names: how many runes a part has, as the program says. No condition. -/
namespace Go.Proofs.YtfemhhjmfckicaaGreatDoor
open Go.RowKit
set_option linter.unusedVariables false
/-- The library's tables of UTF-8 stand. -/
abbrev U8 (w : World) : Prop := Lib.Utf8Tabs 0 1 w
set_option maxHeartbeats 1000000 in
theorem utfCount_any (l : List UInt8) (k : Nat) (hk : runesN l = some k) (w : World) (hl : l.length < 9223372036854775807) (hT : U8 w) : Calls Tryz.prog 97 #[.string ⟨l.toArray⟩] w fun e w' => e = .returned (.int .i64 (k : Int)) ∧ Gr w w' := by
  have hne : runesN l ≠ none := by rw [hk]; exact fun e => by cases e
  have hv := Tryz.utf8_ValidString ⟨l.toArray⟩ w (by rw [size_of]; omega) hT
  have hd0 : (⟨l.toArray⟩ : ByteArray).data.toList = l := rfl
  rw [hd0, valid_of hne] at hv
  have HV := Lib.hid hv
  obtain ⟨s, hs⟩ : ∃ s : ByteArray, s = ⟨l.toArray⟩ := ⟨_, rfl⟩
  rw [← hs] at HV ⊢
  have hsz : s.size = l.length := by rw [hs]; exact size_of l
  have HS := Lib.hid hs; have HSZ := Lib.hid hsz; have HK := Lib.hid hk
  clear hs hsz hT hv hk hne hd0
  go_enter Tryz.func97, Tryz.ntmps97
  go_wp2_with fail
  refine HV.out.mono ?_
  rintro e w1 ⟨rfl, g1⟩
  have G1 : Hid (Gr w w1) := g1
  clear g1
  go_wp2_with fail
  go_loopw [2] (fun n w' => ∃ (pos acc : Nat), w' = w1.iter s pos ∧ n = .int .i64 acc ∧ acc ≤ pos ∧ pos ≤ s.size ∧ runesN l = (runesN (l.drop pos)).map (· + acc)) (fun _ w' => s.size - w'.iterPos w1.heap.size)
  case atStart => exact ⟨0, 0, rfl, rfl, Nat.le_refl _, Nat.zero_le _, by rw [List.drop_zero]; cases runesN l <;> rfl⟩
  case round =>
    obtain ⟨pos, acc, rfl, rfl, ha, hps, hrn⟩ := hrel
    have HRN := Lib.hid hrn; clear hrn
    have GI : Hid (∀ q, Gr w (w1.iter s q)) := fun q => G1.out.trans (Gr.alloc w1 (.stringIter s q))
    by_cases hp : pos < s.size
    · have hnx : ∀ ty, (Instr.next (.pointer (some ⟨w1.heap.size, 0, none⟩)) true ty).run Tryz.prog (w1.iter s pos) = _ := fun ty => run_next_any w1 s pos ty hp
      have hd := decode_small l pos (by rw [← HSZ.out]; exact hp)
      rw [← HS.out] at hd
      have hne : l.drop pos ≠ [] := by
        intro e
        have := congrArg List.length e
        rw [List.length_drop] at this
        have := HSZ.out
        simp at *
        omega
      have hpn : runesN (l.drop pos) ≠ none := fun e => by
        have h := HRN.out
        rw [e, HK.out] at h
        cases h
      have hsp := smallAt_pos hpn hne
      have hwp : 0 < (Utf8.decode s pos).2 := Lib.decode_width_pos s pos hp
      generalize hdec : Utf8.decode s pos = dc at *
      obtain ⟨rn, wd⟩ := dc
      simp only at hd hnx hwp
      have hd : smallAt (l.drop pos) = wd := by
        by_cases h : smallR rn = true
        · rw [if_pos h] at hd; exact hd
        · rw [if_neg h] at hd; omega
      obtain ⟨h3, h4, h5⟩ := runesN_step hd hwp
      rw [List.drop_drop] at h5
      rw [List.length_drop] at h3
      have HN2 : Hid (runesN l = (runesN (l.drop (pos + wd))).map (· + (acc + 1))) := by
        show _ = _
        rw [HRN.out, h5, map_add]
      have hpw : pos + wd ≤ s.size := by rw [HSZ.out]; have := HSZ.out; omega
      have hz := HSZ.out
      clear hd hne hdec h3 h5 hpn hsp
      go_wp2_with fail
      go_roundw
      case rel => exact ⟨pos + wd, acc + 1, rfl, by go_num, by omega, hpw, HN2.out⟩
      case measure => simp; omega
    · have hnx : ∀ ty, (Instr.next (.pointer (some ⟨w1.heap.size, 0, none⟩)) true ty).run Tryz.prog (w1.iter s pos) = _ := fun ty => run_next_end w1 s pos ty hp
      have hpe : pos = l.length := by have := HSZ.out; omega
      have HE : Hid (k = acc) := by
        have h := HRN.out
        rw [hpe, List.drop_length, HK.out] at h
        simp [runesN] at h
        exact h
      clear hpe
      go_wp2_with fail
      go_ret
      exact ⟨by rw [HE.out]; rfl, GI.out _⟩
end Go.Proofs.YtfemhhjmfckicaaGreatDoor
