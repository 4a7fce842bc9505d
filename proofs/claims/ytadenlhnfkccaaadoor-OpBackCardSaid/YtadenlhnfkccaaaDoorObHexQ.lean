/- Bytes as text: Parse, the program's and the reference's. No condition. -/
import Derived.Test.YtadenlhnfkccaaaDoorObHexP
import Derived.Test.YtadenlhnfkccaaaDoorObNameG
import Derived.Outline
namespace Go.Proofs.YtadenlhnfkccaaaDoor
open Go.RowKit
set_option linter.unusedVariables false
set_option linter.unusedSimpArgs false
def RetHex (w : World) (r : List UInt8 × Nat × Nat) (e : Ending) (w' : World) : Prop := ∃ v, e = .returned (.tuple #[v, .int .i64 (r.2.1 : Int), .int .i64 (r.2.2 : Int)]) ∧ Own w w' 5 1 v r.1.length (r.1.map u8c)
theorem RetHex.none {w w' : World} (g : Gr w w') (a f : Nat) : RetHex w ([], a, f) (.returned (.tuple #[.slice none 0 0, .int .i64 (a : Int), .int .i64 (f : Int)])) w' := ⟨_, rfl, Own.nil' g _ _⟩
theorem hexG_odd {l : List UInt8} {k : Nat} (hk : k < l.length) (he : k % 2 = 0) : hexG (l.take (k + 1)) = hexG (l.take k) := by
  rw [List.take_succ_eq_append_getElem hk, hexG_one _ _ (by rw [List.length_take]; omega)]
theorem bits16 : ∀ a b : Fin 16, bits .or .u8 ((a.1 : Int) * 16) (b.1 : Int) = (a.1 : Int) * 16 + b.1 := by decide +kernel
theorem u8c_pair {a b : Nat} (ha : a < 16) (hb : b < 16) : u8c (UInt8.ofNat (a * 16 + b)) = .int .u8 ((a : Int) * 16 + b) := by
  unfold u8c
  rw [UInt8.toNat_ofNat_of_lt' (by show _ < 256; omega)]
  congr 1
set_option maxRecDepth 100000 in
set_option maxHeartbeats 1000000 in
theorem hexParse_any (l : List UInt8) (w : World) (hn : l.length ≤ 100000) : Calls Tryd.prog 45 #[.string ⟨l.toArray⟩] w (RetHex w (hexR l)) := by
  obtain ⟨s, hs⟩ : ∃ s : ByteArray, s = ⟨l.toArray⟩ := ⟨_, rfl⟩
  have hsz : s.size = l.length := by rw [hs]; exact size_of' l
  have HAT := Lib.hid (at_of l s hs)
  rw [← hs]
  clear hs
  obtain ⟨r, hr⟩ : ∃ r, r = hexR l := ⟨_, rfl⟩
  rw [← hr]
  have HR : Hid (r = if hexOk l = false then ([], hexAt l, 3) else if l.length % 2 = 1 then ([], l.length, 3) else (hexG l, 0, 0)) := hr
  clear hr
  go_enter Tryd.func45, Tryd.ntmps45
  go_wp2
  go_loopw [2, 6, 12] (fun v hi i wr => ∃ (k : Nat) (x : Int), k ≤ s.size ∧ i = .int .i64 k ∧ hi = .int .u8 x ∧ (k % 2 = 1 → x = (hexV (l.getD (k - 1) 0) : Int)) ∧ hexOk (l.take k) = true ∧ Own w wr 5 1 v (k / 2) ((hexG (l.take k)).map u8c)) (fun _ _ i _ => s.size - (intOf i).toNat)
  case atStart => exact ⟨0, 0, by omega, rfl, rfl, by omega, rfl, Own.nil _ _ _⟩
  case round =>
    obtain ⟨k, x, hk, rfl, rfl, hx, hok, ow⟩ := hrel
    have OW := Lib.hid ow; have HX := Lib.hid hx; have HOK := Lib.hid hok; clear ow hx hok
    by_cases hlt : k < s.size
    · have hkl : k < l.length := by omega
      have hg : l.getD k 0 = l[k] := by simp [List.getD_eq_getElem?_getD, List.getElem?_eq_getElem hkl]
      have c1 : ((s[k]'hlt).toNat : Int) = (l[k].toNat : Int) := by rw [HAT.out k hlt]; unfold bAt; rw [hg]
      have HV := Lib.hid (fun wr => value_any l[k] wr)
      have HBAD : Hid (¬ hexV l[k] < 16 → r = ([], k, 3)) := fun h => by
        obtain ⟨h1, h2⟩ := hexAt_ok hkl HOK.out h
        rw [HR.out, if_pos h2, h1]
      have HOK2 : Hid (hexV l[k] < 16 → hexOk (l.take (k + 1)) = true) := fun h => hexOk_snoc hkl HOK.out h
      have HG1 : Hid (k % 2 = 0 → hexG (l.take (k + 1)) = hexG (l.take k)) := fun h => hexG_odd hkl h
      have HG2 : Hid (k % 2 = 1 → hexG (l.take (k + 1)) = hexG (l.take k) ++ [UInt8.ofNat (hexV (l.getD (k - 1) 0) * 16 + hexV l[k])] ∧ hexV (l.getD (k - 1) 0) < 16) := fun h => by
        have h1 : k - 1 < l.length := by omega
        have e1 : l.getD (k - 1) 0 = l[k - 1] := by simp [List.getD_eq_getElem?_getD, List.getElem?_eq_getElem h1]
        have h2 := hexG_take2 (l := l) (k := k - 1) (by omega) (by omega)
        have h3 := hexG_odd (l := l) (k := k - 1) h1 (by omega)
        have e2 : k - 1 + 1 = k := by omega
        have e3 : k - 1 + 2 = k + 1 := by omega
        rw [e2] at h3
        rw [e3] at h2
        have e4 : l[k - 1 + 1]'(by omega) = l[k] := by congr 1
        rw [e4, ← h3, ← e1] at h2
        refine ⟨h2, ?_⟩
        have ho := HOK.out
        unfold hexOk at ho
        rw [List.all_eq_true] at ho
        have := ho l[k - 1] (List.mem_of_getElem? (i := k - 1) (by rw [List.getElem?_take, if_pos (by omega), List.getElem?_eq_getElem h1]))
        rw [e1]
        exact of_decide_eq_true this
      have HGX : Hid (l.getD (k + 1 - 1) 0 = l[k]) := by show _ = _; rw [Nat.add_sub_cancel, hg]
      clear hg
      generalize l[k] = y at *
      unfold u8c at HV
      by_cases hv : hexV y < 16
      · rw [if_pos hv, decide_eq_true hv] at HV
        have HK2 := Lib.hid (HOK2.out hv)
        clear HBAD HOK2
        by_cases he : k % 2 = 0
        · have t1 : (((k : Int) % 2) == 0) = true := beq_iff_eq.2 (by omega)
          have HE := Lib.hid (HG1.out he)
          have OE : Hid (Own w wr 5 1 u2 ((k + 1) / 2) ((hexG (l.take (k + 1))).map u8c)) := by
            show Own _ _ _ _ _ _ _
            rw [HE.out, show (k + 1) / 2 = k / 2 by omega]
            exact OW.out
          clear HG1 HG2
          go_wp2_with fail
          refine (HV.out _).mono ?_
          rintro e w1 ⟨rfl, rfl⟩
          go_wp2_with fail
          refine ⟨⟨k + 1, _, by omega, by first | trivial | go_num, rfl, fun _ => by rw [HGX.out], HK2.out, OE.out⟩, ?_⟩
          show s.size - ((k : Int) + 1).toNat < s.size - (k : Int).toNat
          omega
        · have t1 : (((k : Int) % 2) == 0) = false := beq_eq_false_iff_ne.2 (by omega)
          obtain ⟨g1, g2⟩ := HG2.out (by omega)
          have hxx := HX.out (by omega)
          have HE := Lib.hid g1
          clear HG1 HG2 g1
          generalize hexV (l.getD (k - 1) 0) = z at *
          subst hxx
          generalize hexV y = v at *
          go_wp2_with fail
          refine (HV.out _).mono ?_
          rintro e w1 ⟨rfl, rfl⟩
          have hb : bits .or .u8 ((z : Int) * 16) (v : Int) = (z : Int) * 16 + v := bits16 ⟨z, g2⟩ ⟨v, hv⟩
          have HU := Lib.hid (u8c_pair g2 hv)
          go_wp2_with (at_builtin; refine wpList_push rfl (.tmp 30) (.tmp 35) 22 rfl tBytes rfl OW.out #[.int .u8 ((z : Int) * 16 + v)] rfl rfl (by intro u hu; simp at hu; subst hu; rfl) (by omega) ?_; intro v1 wn o1)
          have OE : Hid (Own w wn 5 1 v1 ((k + 1) / 2) ((hexG (l.take (k + 1))).map u8c)) := by
            show Own _ _ _ _ _ _ _
            rw [HE.out, List.map_append, show (k + 1) / 2 = k / 2 + 1 by omega]
            show Own _ _ _ _ _ _ (_ ++ [u8c _])
            rw [HU.out]
            exact o1
          clear o1
          go_wp2_with fail
          refine ⟨⟨k + 1, _, by omega, by first | trivial | go_num, rfl, fun h => absurd h (by omega), HK2.out, OE.out⟩, ?_⟩
          show s.size - ((k : Int) + 1).toNat < s.size - (k : Int).toNat
          omega
      · rw [if_neg hv, decide_eq_false hv] at HV
        have HF := Lib.hid (HBAD.out hv)
        go_wp2_with fail
        refine (HV.out _).mono ?_
        rintro e w1 ⟨rfl, rfl⟩
        go_wp2_with fail
        go_ret3
        rw [HF.out]
        exact RetHex.none OW.out.2 _ _
    · have hke : k = l.length := by omega
      subst hke
      have htk : l.take l.length = l := List.take_length
      rw [htk] at HOK OW
      by_cases he : l.length % 2 = 1
      · have t1 : (((l.length : Int) % 2) != 0) = true := bne_iff_ne.2 (by omega)
        have HF : Hid (r = ([], l.length, 3)) := by show _ = _; rw [HR.out, if_neg (by rw [HOK.out]; decide), if_pos he]
        go_wp2_with fail
        go_ret3
        rw [HF.out]
        exact RetHex.none OW.out.2 _ _
      · have t1 : (((l.length : Int) % 2) != 0) = false := by rw [bne_eq_false_iff_eq]; omega
        have HF : Hid (r = (hexG l, 0, 0)) := by show _ = _; rw [HR.out, if_neg (by rw [HOK.out]; decide), if_neg he]
        go_wp2_with fail
        go_ret3
        rw [HF.out]
        exact ⟨_, rfl, by show Own _ _ _ _ _ (hexG l).length _; rw [hexG_len]; exact OW.out⟩
set_option maxRecDepth 100000 in
set_option maxHeartbeats 1000000 in
theorem refHexParse_any (l : List UInt8) (w : World) (hn : l.length ≤ 100000) : Calls Tryd.prog 66 #[.string ⟨l.toArray⟩] w (RetHex w (hexR l)) := by
  obtain ⟨s, hs⟩ : ∃ s : ByteArray, s = ⟨l.toArray⟩ := ⟨_, rfl⟩
  have hsz : s.size = l.length := by rw [hs]; exact size_of' l
  have HAT := Lib.hid (at_of l s hs)
  rw [← hs]
  clear hs
  obtain ⟨r, hr⟩ : ∃ r, r = hexR l := ⟨_, rfl⟩
  rw [← hr]
  have HR : Hid (r = if hexOk l = false then ([], hexAt l, 3) else if l.length % 2 = 1 then ([], l.length, 3) else (hexG l, 0, 0)) := hr
  clear hr
  have HVAL : Hid (∀ (c : UInt8) wr, hexV c < 16 → Calls Tryd.prog 91 #[.int .u8 (c.toNat : Int)] wr fun e w' => e = .returned (.int .i64 (hexV c : Int)) ∧ w' = wr) := fun c wr h => by
    have := refValue_any c wr
    rw [if_pos h] at this
    exact this
  have HVALN : Hid (∀ (c : UInt8) wr, ¬ hexV c < 16 → Calls Tryd.prog 91 #[.int .u8 (c.toNat : Int)] wr fun e w' => e = .returned (.int .i64 (-1)) ∧ w' = wr) := fun c wr h => by
    have := refValue_any c wr
    rw [if_neg h] at this
    exact this
  go_enter Tryd.func66, Tryd.ntmps66
  go_wp2
  go_loopw [5] (fun i wr => ∃ k : Nat, k ≤ s.size ∧ i = .int .i64 k ∧ hexOk (l.take k) = true ∧ w = wr) (fun i _ => s.size - (intOf i).toNat)
  case atStart => exact ⟨0, by omega, rfl, rfl, rfl⟩
  case round =>
    obtain ⟨k, hk, rfl, hok, rfl⟩ := hrel
    have HOK := Lib.hid hok; clear hok
    by_cases hlt : k < s.size
    · have hkl : k < l.length := by omega
      have hg : l.getD k 0 = l[k] := by simp [List.getD_eq_getElem?_getD, List.getElem?_eq_getElem hkl]
      have c1 : ((s[k]'hlt).toNat : Int) = (l[k].toNat : Int) := by rw [HAT.out k hlt]; unfold bAt; rw [hg]
      have HBAD : Hid (¬ hexV l[k] < 16 → r = ([], k, 3)) := fun h => by
        obtain ⟨h1, h2⟩ := hexAt_ok hkl HOK.out h
        rw [HR.out, if_pos h2, h1]
      have HOK2 : Hid (hexV l[k] < 16 → hexOk (l.take (k + 1)) = true) := fun h => hexOk_snoc hkl HOK.out h
      clear hg
      generalize l[k] = y at *
      by_cases hv : hexV y < 16
      · have HK2 := Lib.hid (HOK2.out hv)
        have t1 : decide (((hexV y : Nat) : Int) < 0) = false := decide_eq_false (by omega)
        go_wp2_with fail
        refine (HVAL.out y _ hv).mono ?_
        rintro e w1 ⟨rfl, rfl⟩
        go_wp2_with fail
        refine ⟨⟨k + 1, by omega, by first | trivial | go_num, HK2.out, by first | trivial | rfl⟩, ?_⟩
        show s.size - ((k : Int) + 1).toNat < s.size - (k : Int).toNat
        omega
      · have HF := Lib.hid (HBAD.out hv)
        go_wp2_with fail
        refine (HVALN.out y _ hv).mono ?_
        rintro e w1 ⟨rfl, rfl⟩
        go_wp2_with fail
        go_ret3
        rw [HF.out]
        exact RetHex.none (Gr.refl _) _ _
    · have hke : k = l.length := by omega
      subst hke
      have htk : l.take l.length = l := List.take_length
      rw [htk] at HOK
      by_cases he : l.length % 2 = 1
      · have t1 : (((l.length : Int) % 2) == 1) = true := beq_iff_eq.2 (by omega)
        have HF : Hid (r = ([], l.length, 3)) := by show _ = _; rw [HR.out, if_neg (by rw [HOK.out]; decide), if_pos he]
        go_wp2_with fail
        go_ret3
        rw [HF.out]
        exact RetHex.none (Gr.refl _) _ _
      · have t1 : (((l.length : Int) % 2) == 1) = false := beq_eq_false_iff_ne.2 (by omega)
        have HF : Hid (r = (hexG l, 0, 0)) := by show _ = _; rw [HR.out, if_neg (by rw [HOK.out]; decide), if_neg he]
        clear HR
        go_wp2_with fail
        go_loopw [6, 7] (fun v i ws => ∃ k : Nat, k ≤ s.size ∧ k % 2 = 0 ∧ i = .int .i64 (k : Int) ∧ Own w ws 5 1 v (k / 2) ((hexG (l.take k)).map u8c)) (fun _ i _ => s.size - (intOf i).toNat)
        case atStart => exact ⟨0, by omega, rfl, rfl, Own.nil _ _ _⟩
        case round =>
          obtain ⟨k, hk2, hke, rfl, ow⟩ := hrel
          have OW := Lib.hid ow; clear ow
          by_cases hl2 : k < s.size
          · have hl1 : k + 1 < s.size := by omega
            have hk1 : k < l.length := by omega
            have hk3 : k + 1 < l.length := by omega
            have g1 : l.getD k 0 = l[k] := by simp [List.getD_eq_getElem?_getD, List.getElem?_eq_getElem hk1]
            have g2 : l.getD (k + 1) 0 = l[k + 1] := by simp [List.getD_eq_getElem?_getD, List.getElem?_eq_getElem hk3]
            have c1 : ((s[k]'hl2).toNat : Int) = (l[k].toNat : Int) := by rw [HAT.out k hl2]; unfold bAt; rw [g1]
            have c2 : ((s[k + 1]'hl1).toNat : Int) = (l[k + 1].toNat : Int) := by rw [HAT.out (k + 1) hl1]; unfold bAt; rw [g2]
            have hall := HOK.out
            unfold hexOk at hall
            rw [List.all_eq_true] at hall
            have v1 : hexV l[k] < 16 := of_decide_eq_true (hall _ (List.getElem_mem hk1))
            have v2 : hexV l[k + 1] < 16 := of_decide_eq_true (hall _ (List.getElem_mem hk3))
            have HG := Lib.hid (hexG_take2 hk3 hke)
            clear g1 g2 hall
            generalize l[k] = y1 at *
            generalize l[k + 1] = y2 at *
            have HV1 := Lib.hid (fun wr => HVAL.out y1 wr v1)
            have HV2 := Lib.hid (fun wr => HVAL.out y2 wr v2)
            have HU := Lib.hid (u8c_pair v1 v2)
            generalize hexV y1 = z1 at *
            generalize hexV y2 = z2 at *
            have hw : IntKind.u8.wrap ((z1 : Int) * 16 + z2) = (z1 : Int) * 16 + z2 := wrap_u8 (by omega) (by omega)
            have i1 : (k : Int) + 1 < (l.length : Int) := by omega
            have i2 : ((k : Int) + 1).toNat = k + 1 := by omega
            have i0 : (0 : Int) ≤ (k : Int) + 1 := by omega
            have q1 : IntKind.i64.wrap ((k : Int) + 1) = (k : Int) + 1 := by rw [IntKind.wrap_i64]; omega
            have q2 : IntKind.i64.wrap ((z1 : Int) * 16) = (z1 : Int) * 16 := by rw [IntKind.wrap_i64]; omega
            have q3 : IntKind.i64.wrap ((z1 : Int) * 16 + z2) = (z1 : Int) * 16 + z2 := by rw [IntKind.wrap_i64]; omega
            go_wp2_with fail
            go_region_law (first
              | (refine step_push rfl (.tmp 32) (.tmp 45) 22 rfl tBytes rfl (by exact (OW.out.drew).alloc _) _ _ [.int .u8 ((z1 : Int) * 16 + z2)] rfl rfl (by intro u hu; simp at hu; subst hu; rfl) (by exact cells_new _ 0 #[.int .u8 ((z1 : Int) * 16 + z2)] _) (by omega) ?_; intro v1 w1 o1)
              | (go_simp; go_at_call 91; first | (with_reducible refine (HV1.out _).mono ?_) | (with_reducible refine (HV2.out _).mono ?_); rintro e w1 ⟨rfl, rfl⟩))
            all_goals
              have OE : Hid (Own w w1 5 1 v1 ((k + 2) / 2) ((hexG (l.take (k + 2))).map u8c)) := by
                show Own _ _ _ _ _ _ _
                rw [HG.out, List.map_append, show (k + 2) / 2 = k / 2 + 1 by omega]
                show Own _ _ _ _ _ _ (_ ++ [u8c _])
                rw [HU.out]
                exact o1
              clear o1 q1 q2 q3
              go_wp2
              go_roundw
              case rel => exact ⟨k + 2, by omega, by omega, by first | trivial | go_num, OE.out⟩
              case measure =>
                show s.size - ((k : Int) + 2).toNat < s.size - (k : Int).toNat
                omega
          · obtain rfl : k = s.size := by omega
            rw [hsz] at OW
            rw [htk] at OW
            go_wp2_with fail
            go_ret3
            rw [HF.out]
            exact ⟨_, rfl, by show Own _ _ _ _ _ (hexG l).length _; rw [hexG_len]; exact OW.out⟩
end Go.Proofs.YtadenlhnfkccaaaDoor
