/- Own texts of this claim, one behind the other. No condition. -/
import Derived.Test.YtfemhhjmfckicaaDoorObPkG
import Derived.Lib.RuneCount
import Derived.Outline
import Derived.Shelf.Unicode.ValidAny
import Derived.Test.YtfemhhjmfckicaaDoorProg

/- Names: a part, as the program says. No condition. -/
namespace Go.Proofs.YtfemhhjmfckicaaDoor
open Go.RowKit
set_option linter.unusedVariables false
theorem size_of (l : List UInt8) : (⟨l.toArray⟩ : ByteArray).size = l.length := by simp [ByteArray.size]
theorem map_add {o : Option Nat} {a b : Nat} : (o.map (· + a)).map (· + b) = o.map (· + (b + a)) := by cases o <;> simp; omega
set_option maxHeartbeats 1000000 in
theorem part_any (l : List UInt8) (w : World) (hl : l.length < 9223372036854775807) : Calls Tryd.prog 82 #[.string ⟨l.toArray⟩] w fun e w' => e = .returned (.bool (partL l)) ∧ Gr w w' := by
  obtain ⟨r, hr⟩ : ∃ r, r = partL l := ⟨_, rfl⟩
  rw [← hr]
  have HR := Lib.hid hr
  obtain ⟨s, hs⟩ : ∃ s : ByteArray, s = ⟨l.toArray⟩ := ⟨_, rfl⟩
  rw [← hs]
  have hsz : s.size = l.length := by rw [hs]; exact size_of l
  have HS := Lib.hid hs; have HSZ := Lib.hid hsz
  clear hr hs hsz
  go_enter Tryd.func82, Tryd.ntmps82
  go_wp2_with fail
  go_loopw [3] (fun n w' => ∃ (pos acc : Nat), w' = w.iter s pos ∧ n = .int .i64 acc ∧ acc ≤ pos ∧ pos ≤ s.size ∧ runesN l = (runesN (l.drop pos)).map (· + acc)) (fun _ w' => s.size - w'.iterPos w.heap.size)
  case atStart => exact ⟨0, 0, rfl, rfl, Nat.le_refl _, Nat.zero_le _, by rw [List.drop_zero]; cases runesN l <;> rfl⟩
  case round =>
    obtain ⟨pos, acc, rfl, rfl, ha, hps, hrn⟩ := hrel
    have HRN := Lib.hid hrn; clear hrn
    have GI : Hid (∀ q, Gr w (w.iter s q)) := fun q => Gr.alloc w (.stringIter s q)
    by_cases hp : pos < s.size
    · have hnx : ∀ ty, (Instr.next (.pointer (some ⟨w.heap.size, 0, none⟩)) true ty).run Tryd.prog (w.iter s pos) = _ := fun ty => run_next_any w s pos ty hp
      have hd := decode_small l pos (by rw [← HSZ.out]; exact hp)
      rw [← HS.out] at hd
      have hne : l.drop pos ≠ [] := by
        intro e
        have := congrArg List.length e
        rw [List.length_drop] at this
        have := HSZ.out
        simp at *
        omega
      have hsm := Lib.hid (small_any (Utf8.decode s pos).1)
      generalize hdec : Utf8.decode s pos = dc at *
      obtain ⟨rn, wd⟩ := dc
      simp only at hd hsm hnx
      cases hb : smallR rn with
      | false =>
        rw [hb] at hd hsm
        rw [if_neg (by decide)] at hd
        have HF : Hid (r = false) := by
          show r = false
          rw [HR.out]
          unfold partL
          rw [HRN.out, runesN_stop hd hne]
          rfl
        clear hd hb hne hdec
        go_wp2_with fail
        refine (hsm.out _).mono ?_
        rintro e w1 ⟨rfl, h1⟩
        subst h1
        go_wp2_with fail
        go_ret
        exact ⟨by rw [HF.out]; rfl, GI.out _⟩
      | true =>
        rw [hb] at hd hsm
        rw [if_pos rfl] at hd
        have hwp : 0 < wd := by have := Lib.decode_width_pos s pos hp; rw [hdec] at this; exact this
        obtain ⟨h3, h4, h5⟩ := runesN_step hd hwp
        rw [List.drop_drop] at h5
        rw [List.length_drop] at h3
        have HN2 : Hid (runesN l = (runesN (l.drop (pos + wd))).map (· + (acc + 1))) := by
          show _ = _
          rw [HRN.out, h5, map_add]
        have hpw : pos + wd ≤ s.size := by rw [HSZ.out]; have := HSZ.out; omega
        have hz := HSZ.out
        clear hd hb hne hdec h3 h5
        go_wp2_with fail
        refine (hsm.out _).mono ?_
        rintro e w1 ⟨rfl, h1⟩
        subst h1
        go_wp2_with fail
        go_roundw
        case rel => exact ⟨pos + wd, acc + 1, rfl, by go_num, by omega, hpw, HN2.out⟩
        case measure => simp; omega
    · have hnx : ∀ ty, (Instr.next (.pointer (some ⟨w.heap.size, 0, none⟩)) true ty).run Tryd.prog (w.iter s pos) = _ := fun ty => run_next_end w s pos ty hp
      have hpe : pos = l.length := by have := HSZ.out; omega
      have HE : Hid (r = (decide (1 ≤ acc) && decide (acc ≤ 8))) := by
        show r = _
        rw [HR.out]
        unfold partL
        rw [HRN.out, hpe, List.drop_length]
        simp [runesN]
      clear hpe
      by_cases h1 : acc < 1
      · have HF : Hid (r = false) := by show r = false; rw [HE.out]; simp; omega
        go_wp2_with fail
        go_ret
        exact ⟨by rw [HF.out]; rfl, GI.out _⟩
      by_cases h8 : acc ≤ 8
      · have HF : Hid (r = true) := by show r = true; rw [HE.out]; simp; omega
        have t8 : decide ((acc : Int) ≤ 8) = true := decide_eq_true (by omega)
        go_wp2_with fail
        go_ret
        exact ⟨by rw [HF.out]; rfl, GI.out _⟩
      · have HF : Hid (r = false) := by show r = false; rw [HE.out]; simp; omega
        have t8 : decide ((acc : Int) ≤ 8) = false := decide_eq_false (by omega)
        go_wp2_with fail
        go_ret
        exact ⟨by rw [HF.out]; rfl, GI.out _⟩
end Go.Proofs.YtfemhhjmfckicaaDoor

/-
  DERIVED: THE SHELF's CONTRACTS AT THIS DUMP, IN PLAIN WORDS (tools/lay-plain.mjs out of 'TryvShelf.lean', which tools/lay-shelf.mjs wrote): THE SAME DECLARATIONS UNDER THE SAME NAMES: 'import', 'namespace', 'open', 'def', 'theorem' AND NOTHING ELSE: no command of the shelf's: FOR A HAND-IN. Each laying: the table of numbers ('.._ren') and one theorem, a field a fact of the dump's own or the kernel's comparison; each contract: ONE APPLICATION.
-/
namespace Go.Proofs
open Go.Shelf
def Tryd.lays196_ren : Go.Shelf.Ren := ⟨fun | 196 => 109 | 259 => 136 | n => n, fun | 9 => 9 | 4 => 4 | 3 => 3 | 5 => 5 | 12 => 12 | 119 => 188 | 0 => 0 | 46 => 109 | 139 => 191 | 138 => 190 | 53 => 100 | n => n, fun | 3 => 0 | 4 => 1 | n => n⟩
theorem Tryd.lays196 : Go.Proofs.Lays.n196 Tryd.prog Tryd.lays196_ren := {
  mixed := by kernel_rfl
  f196 := Tryd.func109.trans (congrArg some (by kernel_rfl))
  f259 := Tryd.func136.trans (congrArg some (by kernel_rfl))
  t0 := Tryd.underlying0
  a0 := Tryd.isAgg0
  z0 := Tryd.sizeOf0
  v0 := Tryd.zeroValue0
  t3 := Tryd.underlying3
  a3 := Tryd.isAgg3
  z3 := Tryd.sizeOf3
  v3 := Tryd.zeroValue3
  t4 := Tryd.underlying4
  a4 := Tryd.isAgg4
  z4 := Tryd.sizeOf4
  v4 := Tryd.zeroValue4
  t5 := Tryd.underlying5
  a5 := Tryd.isAgg5
  z5 := Tryd.sizeOf5
  v5 := Tryd.zeroValue5
  t9 := Tryd.underlying9
  a9 := Tryd.isAgg9
  z9 := Tryd.sizeOf9
  v9 := Tryd.zeroValue9
  t12 := Tryd.underlying12
  a12 := Tryd.isAgg12
  z12 := Tryd.sizeOf12
  v12 := Tryd.zeroValue12
  t46 := Tryd.underlying109
  a46 := Tryd.isAgg109
  z46 := Tryd.sizeOf109
  v46 := Tryd.zeroValue109
  t53 := Tryd.underlying100
  a53 := Tryd.isAgg100
  z53 := Tryd.sizeOf100
  v53 := Tryd.zeroValue100
  t119 := Tryd.underlying188
  a119 := Tryd.isAgg188
  z119 := Tryd.sizeOf188
  t138 := Tryd.underlying190
  a138 := Tryd.isAgg190
  z138 := Tryd.sizeOf190
  v138 := Tryd.zeroValue190
  t139 := Tryd.underlying191
  a139 := Tryd.isAgg191
  z139 := Tryd.sizeOf191
  v139 := Tryd.zeroValue191
  g3 := by kernel_rfl
  g4 := by kernel_rfl }
open Go.RowKit Go.Lib in
theorem Tryd.utf8_ValidString (s : ByteArray) (w : World) (hs : s.size ≤ 9223372036854775807) (hT : Lib.Utf8Tabs 0 1 w) :
    Calls Tryd.prog 109 #[.string s] w fun e w' => e = .returned (.bool (Lib.validD s.data.toList)) ∧ Below w.heap.size w w' := Any.utf8_ValidString Tryd.lays196 s w hs hT
end Go.Proofs

/- Names: how many runes a part has, as the program says. No condition. -/
namespace Go.Proofs.YtfemhhjmfckicaaDoor
open Go.RowKit
set_option linter.unusedVariables false
/-- The library's tables of UTF-8 stand. -/
abbrev U8 (w : World) : Prop := Lib.Utf8Tabs 0 1 w
set_option maxHeartbeats 1000000 in
theorem utfCount_any (l : List UInt8) (k : Nat) (hk : runesN l = some k) (w : World) (hl : l.length < 9223372036854775807) (hT : U8 w) : Calls Tryd.prog 83 #[.string ⟨l.toArray⟩] w fun e w' => e = .returned (.int .i64 (k : Int)) ∧ Gr w w' := by
  have hne : runesN l ≠ none := by rw [hk]; exact fun e => by cases e
  have hv := Tryd.utf8_ValidString ⟨l.toArray⟩ w (by rw [size_of]; omega) hT
  have hd0 : (⟨l.toArray⟩ : ByteArray).data.toList = l := rfl
  rw [hd0, valid_of hne] at hv
  have HV := Lib.hid hv
  obtain ⟨s, hs⟩ : ∃ s : ByteArray, s = ⟨l.toArray⟩ := ⟨_, rfl⟩
  rw [← hs] at HV ⊢
  have hsz : s.size = l.length := by rw [hs]; exact size_of l
  have HS := Lib.hid hs; have HSZ := Lib.hid hsz; have HK := Lib.hid hk
  clear hs hsz hT hv hk hne hd0
  go_enter Tryd.func83, Tryd.ntmps83
  go_wp2_with fail
  refine HV.out.mono ?_
  rintro e w1 ⟨rfl, g1⟩
  have G1 : Hid (Gr w w1) := g1
  clear g1
  go_wp2_with fail
  go_loopw [2] (fun n w' => ∃ (pos acc : Nat), w' = w1.iter s pos ∧ n = .int .i64 acc ∧ acc ≤ pos ∧ pos ≤ s.size ∧ runesN l = (runesN (l.drop pos)).map (· + acc)) (fun _ w' => s.size - w'.iterPos w1.heap.size)
  case atStart => exact ⟨0, 0, rfl, rfl, Nat.le_refl _, Nat.zero_le _, by rw [List.drop_zero]; cases runesN l <;> rfl⟩
  case round =>
    obtain ⟨pos, acc, rfl, rfl, ha, hps, hrn⟩ := hrel
    have HRN := Lib.hid hrn; clear hrn
    have GI : Hid (∀ q, Gr w (w1.iter s q)) := fun q => G1.out.trans (Gr.alloc w1 (.stringIter s q))
    by_cases hp : pos < s.size
    · have hnx : ∀ ty, (Instr.next (.pointer (some ⟨w1.heap.size, 0, none⟩)) true ty).run Tryd.prog (w1.iter s pos) = _ := fun ty => run_next_any w1 s pos ty hp
      have hd := decode_small l pos (by rw [← HSZ.out]; exact hp)
      rw [← HS.out] at hd
      have hne : l.drop pos ≠ [] := by
        intro e
        have := congrArg List.length e
        rw [List.length_drop] at this
        have := HSZ.out
        simp at *
        omega
      have hpn : runesN (l.drop pos) ≠ none := fun e => by
        have h := HRN.out
        rw [e, HK.out] at h
        cases h
      have hsp := smallAt_pos hpn hne
      have hwp : 0 < (Utf8.decode s pos).2 := Lib.decode_width_pos s pos hp
      generalize hdec : Utf8.decode s pos = dc at *
      obtain ⟨rn, wd⟩ := dc
      simp only at hd hnx hwp
      have hd : smallAt (l.drop pos) = wd := by
        by_cases h : smallR rn = true
        · rw [if_pos h] at hd; exact hd
        · rw [if_neg h] at hd; omega
      obtain ⟨h3, h4, h5⟩ := runesN_step hd hwp
      rw [List.drop_drop] at h5
      rw [List.length_drop] at h3
      have HN2 : Hid (runesN l = (runesN (l.drop (pos + wd))).map (· + (acc + 1))) := by
        show _ = _
        rw [HRN.out, h5, map_add]
      have hpw : pos + wd ≤ s.size := by rw [HSZ.out]; have := HSZ.out; omega
      have hz := HSZ.out
      clear hd hne hdec h3 h5 hpn hsp
      go_wp2_with fail
      go_roundw
      case rel => exact ⟨pos + wd, acc + 1, rfl, by go_num, by omega, hpw, HN2.out⟩
      case measure => simp; omega
    · have hnx : ∀ ty, (Instr.next (.pointer (some ⟨w1.heap.size, 0, none⟩)) true ty).run Tryd.prog (w1.iter s pos) = _ := fun ty => run_next_end w1 s pos ty hp
      have hpe : pos = l.length := by have := HSZ.out; omega
      have HE : Hid (k = acc) := by
        have h := HRN.out
        rw [hpe, List.drop_length, HK.out] at h
        simp [runesN] at h
        exact h
      clear hpe
      go_wp2_with fail
      go_ret
      exact ⟨by rw [HE.out]; rfl, GI.out _⟩
end Go.Proofs.YtfemhhjmfckicaaDoor
