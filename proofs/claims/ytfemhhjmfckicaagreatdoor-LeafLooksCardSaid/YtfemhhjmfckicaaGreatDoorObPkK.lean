/- Own texts of this claim, one behind the other. No condition. -/
import Derived.Test.YtfemhhjmfckicaaGreatDoorObPkI
import Derived.Test.YtfemhhjmfckicaaGreatDoorObPkJ
import Derived.Outline

/- Names: the reference's runes of a text, their number, and its parts. No condition. -/
namespace Go.Proofs.YtfemhhjmfckicaaGreatDoor
open Go.RowKit
set_option linter.unusedVariables false
theorem tRunes : ElemT Tryz.prog 158 21 (.int .i32 0) 1 4 := ⟨Tryz.underlying158, by kernel_rfl, rfl, by decide, by decide⟩
def i32c (n : Nat) : Value := .int .i32 (n : Int)
theorem runesR_fuel : ∀ (n f : Nat) (l : List UInt8), l.length ≤ n → n ≤ f → runesR f l = runesR n l
  | 0, f, [], _, _ => by cases f <;> rfl
  | 0, _, _ :: _, h, _ => by simp at h
  | n + 1, 0, _, _, h => by omega
  | n + 1, f + 1, [], _, _ => rfl
  | n + 1, f + 1, b :: t, h, hf => by
    simp only [runesR]
    by_cases h0 : (firstR (b :: t)).2 = 0
    · rw [if_pos h0, if_pos h0]
    · rw [if_neg h0, if_neg h0, runesR_fuel n f _ (by rw [List.length_drop]; simp at h ⊢; omega) (by omega)]
def runesA (l : List UInt8) : Option (List Nat) := runesR l.length l
theorem runesA_nil : runesA [] = some [] := rfl
theorem runesA_step (l : List UInt8) (hl : 0 < l.length) : runesA l = if (firstR l).2 = 0 then none else (runesA (l.drop (firstR l).2)).map ((firstR l).1 :: ·) := by
  match l, hl with
  | b :: t, _ =>
    unfold runesA
    show runesR (t.length + 1) (b :: t) = _
    simp only [runesR]
    by_cases h0 : (firstR (b :: t)).2 = 0
    · rw [if_pos h0, if_pos h0]
    · rw [if_neg h0, if_neg h0, runesR_fuel _ t.length _ (Nat.le_refl _) (by rw [List.length_drop]; simp; omega)]
theorem first_le (l : List UInt8) : (firstR l).2 ≤ l.length := by
  rcases Nat.eq_zero_or_pos l.length with h | h
  · obtain rfl : l = [] := List.eq_nil_of_length_eq_zero h
    exact Nat.le_refl _
  · rw [firstR_is l h]
    split
    · exact Nat.zero_le _
    · split
      · exact Nat.zero_le _
      · split
        · exact Nat.zero_le _
        · show (leadR _).1 ≤ _
          omega
theorem drop_text (l : List UInt8) (s : ByteArray) (hs : s = ⟨l.toArray⟩) (k : Nat) : s.extract k s.size = ⟨(l.drop k).toArray⟩ := by
  subst hs
  apply ByteArray.ext
  rw [size_of']
  simp [ByteArray.extract, ByteArray.copySlice]
  rw [List.take_of_length_le (by simp)]
/-- What Runes tells: the runes, or a fault. -/
def RetRu (w : World) (o : Option (List Nat)) (e : Ending) (w' : World) : Prop := match o with
  | some rs => ∃ v, e = .returned (.tuple #[v, .int .i64 0, .int .i64 0]) ∧ Own w w' 21 1 v rs.length (rs.map i32c)
  | none => ∃ p : Nat, e = .returned (.tuple #[.slice none 0 0, .int .i64 (p : Int), .int .i64 4]) ∧ Gr w w'
set_option maxHeartbeats 2000000 in
theorem refRunes_any (l : List UInt8) (w : World) (hl : l.length ≤ 100000) : Calls Tryz.prog 125 #[.string ⟨l.toArray⟩] w (RetRu w (runesA l)) := by
  obtain ⟨s, hs⟩ : ∃ s : ByteArray, s = ⟨l.toArray⟩ := ⟨_, rfl⟩
  have hsz : s.size = l.length := by rw [hs]; exact size_of' l
  have HD := Lib.hid (drop_text l s hs)
  rw [← hs]
  have HS := Lib.hid hs; clear hs
  have HSZ := Lib.hid hsz
  have hsl : s.size ≤ 100000 := by omega
  clear hsz
  obtain ⟨o, ho⟩ : ∃ o, o = runesA l := ⟨_, rfl⟩
  rw [← ho]
  have HO := Lib.hid ho; clear ho
  go_enter Tryz.func125, Tryz.ntmps125
  go_wp2_with fail
  go_loopw [5, 6] (fun v i wr => ∃ (pos : Nat) (rs : List Nat), pos ≤ s.size ∧ i = .int .i64 pos ∧ rs.length ≤ pos ∧ Own w wr 21 1 v rs.length (rs.map i32c) ∧ runesA l = (runesA (l.drop pos)).map (rs ++ ·)) (fun _ i _ => s.size - (intOf i).toNat)
  case atStart => exact ⟨0, [], Nat.zero_le _, rfl, Nat.le_refl _, Own.nil w _ _, by rw [List.drop_zero]; simp⟩
  case round v0 i0 =>
    obtain ⟨pos, rs, hps, rfl, hrl, own, hru⟩ := hrel
    have HRU := Lib.hid hru; clear hru
    have OW := Lib.hid own; clear own
    by_cases hlt : pos < s.size
    · have hx := HD.out pos
      have hdl : (l.drop pos).length = s.size - pos := by rw [List.length_drop, HSZ.out]
      have hfl := first_le (l.drop pos)
      rw [hdl] at hfl
      have hst := runesA_step (l.drop pos) (by omega)
      rw [List.drop_drop] at hst
      have hfi := fun w => refFirst_any (l.drop pos) w (by rw [hdl]; omega)
      rw [← hx] at hfi
      clear hx hdl
      generalize firstR (l.drop pos) = fr at *
      obtain ⟨rn, sz⟩ := fr
      simp only at hfl hst hfi
      have HFI := Lib.hid hfi; have HST := Lib.hid hst
      clear hfi hst
      go_wp2_with fail
      refine (HFI.out _).mono ?_
      rintro e w1 ⟨rfl, g1⟩
      have G1 := Lib.hid g1; clear g1
      by_cases h0 : sz = 0
      · subst h0
        have HN : Hid (o = none) := by
          show _ = _
          rw [HO.out, HRU.out, HST.out, if_pos rfl]
          rfl
        go_wp2_with fail
        go_ret3
        rw [HN.out]
        exact ⟨pos, rfl, Gr.trans OW.out.below G1.out⟩
      · have t0 : ((sz : Int) == 0) = false := beq_eq_false_iff_ne.2 (by omega)
        have HR2 : Hid (runesA l = (runesA (l.drop (pos + sz))).map ((rs ++ [rn]) ++ ·)) := by
          show _ = _
          rw [HRU.out, HST.out, if_neg h0]
          cases runesA (l.drop (pos + sz)) with
          | none => rfl
          | some x => simp
        have OG := Lib.hid (OW.out.mono G1.out)
        go_wp2_with (at_builtin; refine wpList_push rfl (.tmp 23) (.tmp 25) 158 rfl tRunes rfl OG.out #[_] rfl rfl (one_int _ _) (by omega) ?_; intro v5 w5 o5)
        have O5 : Hid (Own w w5 21 1 v5 (rs ++ [rn]).length ((rs ++ [rn]).map i32c)) := by
          rw [List.length_append, List.map_append]
          exact o5
        clear o5
        go_roundw
        case rel => exact ⟨pos + sz, rs ++ [rn], by omega, by first | trivial | go_num, by simp; omega, O5.out, HR2.out⟩
        case measure =>
          show s.size - ((pos : Int) + sz).toNat < s.size - (pos : Int).toNat
          omega
    · have hpe : pos = l.length := by have := HSZ.out; omega
      have HN : Hid (o = some rs) := by
        show _ = _
        rw [HO.out, HRU.out, hpe, List.drop_length, runesA_nil]
        simp
      go_wp2_with fail
      go_ret3
      rw [HN.out]
      exact ⟨_, rfl, OW.out⟩
def countR (o : Option (List Nat)) : Int := match o with
  | some rs => rs.length
  | none => -1
set_option maxHeartbeats 2000000 in
theorem refCount_any (l : List UInt8) (w : World) (hl : l.length ≤ 100000) : Calls Tryz.prog 103 #[.string ⟨l.toArray⟩] w fun e w' => e = .returned (.int .i64 (countR (runesA l))) ∧ Gr w w' := by
  have HR := Lib.hid (refRunes_any l w hl)
  obtain ⟨s, hs⟩ : ∃ s : ByteArray, s = ⟨l.toArray⟩ := ⟨_, rfl⟩
  rw [← hs] at HR ⊢
  clear hs
  generalize runesA l = o at *
  cases o with
  | none =>
    go_enter Tryz.func103, Tryz.ntmps103
    go_wp2_with fail
    refine HR.out.mono ?_
    rintro e w1 ⟨q, rfl, g1⟩
    have G1 := Lib.hid g1; clear g1
    go_wp2_with fail
    go_ret
    exact ⟨rfl, G1.out⟩
  | some rs =>
    go_enter Tryz.func103, Tryz.ntmps103
    go_wp2_with fail
    refine HR.out.mono ?_
    rintro e w1 ⟨v, rfl, own⟩
    have G1 := Lib.hid own.below
    obtain ⟨A, c, rfl, sl⟩ := own.slice
    have hm := sl.max
    clear own sl
    go_wp2_with fail
    go_ret
    exact ⟨rfl, G1.out⟩
theorem rune_at {w : World} {A : Option Addr} {n c : Nat} {rs : List Nat} (h : Sl w A n c 1 (rs.map i32c)) (hn : 0 < n) : ∃ b o, A = some ⟨b, o, none⟩ ∧ ∀ j (hj : j < rs.length), w.cell? ⟨b, o + j, none⟩ = some (.int .i32 (rs[j] : Int)) := by
  obtain ⟨b, o, e, hc⟩ := h.addr hn
  exact ⟨b, o, e, fun j hj => hc j _ (by rw [List.getElem?_map, List.getElem?_eq_getElem hj]; rfl)⟩
set_option maxHeartbeats 2000000 in
theorem refPart_any (l : List UInt8) (w : World) (hl : l.length ≤ 100000) : Calls Tryz.prog 102 #[.string ⟨l.toArray⟩] w fun e w' => e = .returned (.bool (partL l)) ∧ Gr w w' := by
  have HR := Lib.hid (refRunes_any l w hl)
  obtain ⟨s, hs⟩ : ∃ s : ByteArray, s = ⟨l.toArray⟩ := ⟨_, rfl⟩
  rw [← hs] at HR ⊢
  clear hs
  obtain ⟨b, hb⟩ : ∃ b, b = partL l := ⟨_, rfl⟩
  rw [← hb]
  have hb2 : b = (match runesA l with
    | some rs => decide (1 ≤ rs.length) && decide (rs.length ≤ 8) && rs.all smallR
    | none => false) := by rw [hb, ← partR_eq]; rfl
  clear hb
  generalize runesA l = o at *
  cases o with
  | none =>
    obtain rfl : b = false := hb2
    go_enter Tryz.func102, Tryz.ntmps102
    go_wp2_with fail
    refine HR.out.mono ?_
    rintro e w1 ⟨q, rfl, g1⟩
    have G1 := Lib.hid g1; clear g1
    go_wp2_with fail
    go_ret
    exact ⟨rfl, G1.out⟩
  | some rs =>
    have HB : Hid (b = (decide (1 ≤ rs.length) && decide (rs.length ≤ 8) && rs.all smallR)) := hb2
    clear hb2
    go_enter Tryz.func102, Tryz.ntmps102
    go_wp2_with fail
    refine HR.out.mono ?_
    rintro e w1 ⟨v, rfl, own⟩
    have G1 := Lib.hid own.below
    obtain ⟨A, c, rfl, sl⟩ := own.slice
    have hm := sl.max
    have hcap := sl.cap
    clear own
    by_cases h1 : rs.length < 1
    · have t1 : decide ((rs.length : Int) < 1) = true := decide_eq_true (by omega)
      have HF : Hid (b = false) := by show _ = _; rw [HB.out, decide_eq_false (show ¬ 1 ≤ rs.length by omega)]; rfl
      clear sl
      go_wp2_with fail
      go_ret
      exact ⟨by rw [HF.out]; rfl, G1.out⟩
    have t1 : decide ((rs.length : Int) < 1) = false := decide_eq_false (by omega)
    by_cases h8 : 8 < rs.length
    · have t8 : decide ((8 : Int) < (rs.length : Int)) = true := decide_eq_true (by omega)
      have HF : Hid (b = false) := by show _ = _; rw [HB.out, decide_eq_false (show ¬ rs.length ≤ 8 by omega), Bool.and_false]; rfl
      clear sl
      go_wp2_with fail
      go_ret
      exact ⟨by rw [HF.out]; rfl, G1.out⟩
    have t8 : decide ((8 : Int) < (rs.length : Int)) = false := decide_eq_false (by omega)
    have HA : Hid (b = rs.all smallR) := by show _ = _; rw [HB.out, decide_eq_true (show 1 ≤ rs.length by omega), decide_eq_true (show rs.length ≤ 8 by omega)]; rfl
    obtain ⟨bk, o, rfl, hcl⟩ := rune_at sl (by omega)
    have HC := Lib.hid hcl; clear hcl sl
    go_wp2_with fail
    go_loopw [6] (fun i wr => ∃ k : Nat, k ≤ rs.length ∧ i = .int .i64 k ∧ wr = w1 ∧ (rs.take k).all smallR = true) (fun i _ => rs.length - (intOf i).toNat)
    case atStart => exact ⟨0, Nat.zero_le _, rfl, rfl, rfl⟩
    case round =>
      obtain ⟨k, hk, rfl, rfl, hall⟩ := hrel
      have HAL := Lib.hid hall; clear hall
      by_cases hlt : k < rs.length
      · have hc := HC.out k hlt
        have HTK : Hid ((rs.take (k + 1)).all smallR = smallR rs[k]) := by
          show _ = _
          rw [List.take_succ_eq_append_getElem hlt, List.all_append, HAL.out]
          simp
        have HIN : Hid (smallR rs[k] = false → b = false) := fun e => by
          rw [HA.out]
          rw [List.all_eq_false]
          exact ⟨rs[k], List.getElem_mem hlt, by rw [e]; decide⟩
        have HSM := Lib.hid (refSmall_any rs[k])
        generalize rs[k] = y at *
        cases hsm : smallR y with
        | false =>
          rw [hsm] at HSM
          have HF := Lib.hid (HIN.out hsm)
          clear hsm
          go_wp2_with fail
          refine (HSM.out _).mono ?_
          rintro e w2 ⟨rfl, h2⟩
          subst h2
          go_wp2_with fail
          go_ret
          exact ⟨by rw [HF.out]; rfl, G1.out⟩
        | true =>
          rw [hsm] at HSM HTK
          clear hsm
          go_wp2_with fail
          refine (HSM.out _).mono ?_
          rintro e w2 ⟨rfl, h2⟩
          subst h2
          go_wp2_with fail
          go_roundw
          case rel => exact ⟨k + 1, by omega, by go_num, by first | trivial | rfl, HTK.out⟩
          case measure =>
            show rs.length - ((k : Int) + 1).toNat < rs.length - (k : Int).toNat
            omega
      · have HF : Hid (b = true) := by
          show _ = _
          rw [HA.out]
          have := HAL.out
          rwa [List.take_of_length_le (by omega)] at this
        go_wp2_with fail
        go_ret
        exact ⟨by rw [HF.out]; rfl, G1.out⟩
end Go.Proofs.YtfemhhjmfckicaaGreatDoor
