import Derived.Test.YtbmijjodpdbbmaaObWritesW
namespace Go.Proofs.Ytbmijjodpdbbmaa
open Go.RowKit Go.Maps
set_option linter.unusedVariables false

/-! ### a number put in its place -/
theorem insU_at : ∀ (S : List Int) (x : Int) (j : Nat), j ≤ S.length → (∀ t, t < j → iAt S t < x) → (j < S.length → x ≤ iAt S j) → insU x S = if j < S.length ∧ iAt S j = x then S else S.take j ++ [x] ++ S.drop j
  | [], x, j, hj, _, _ => by
    have : j = 0 := by simpa using hj
    subst this
    rw [if_neg (by simp)]
    rfl
  | y :: t, x, 0, _, _, h2 => by
    have h3 : x ≤ y := h2 (by simp)
    unfold insU
    rw [if_neg (by omega)]
    by_cases h : y = x
    · rw [if_pos h, if_pos ⟨by simp, h⟩]
    · rw [if_neg h, if_neg (fun hh => h hh.2)]
      rfl
  | y :: t, x, j + 1, hj, h1, h2 => by
    have h3 : y < x := h1 0 (by omega)
    have ih := insU_at t x j (by simpa using hj) (fun i hi => h1 (i + 1) (by omega)) (fun h => h2 (by simpa using h))
    have e1 : iAt (y :: t) (j + 1) = iAt t j := rfl
    unfold insU
    rw [if_pos h3, ih, e1]
    by_cases h : j < t.length ∧ iAt t j = x
    · rw [if_pos h, if_pos ⟨by simp; exact h.1, h.2⟩]
    · rw [if_neg h, if_neg (fun hh => h ⟨by simpa using hh.1, hh.2⟩)]
      simp
theorem insU_len (x : Int) : ∀ S, (insU x S).length ≤ S.length + 1
  | [] => by simp [insU]
  | y :: t => by
    unfold insU
    split
    · have := insU_len x t; simp; omega
    · split <;> simp
theorem sortU_len (l : List Int) (k : Nat) : (sortU (l.take k)).length ≤ k := by
  induction k with
  | zero => simp [sortU]
  | succ k ih =>
    by_cases hk : k < l.length
    · rw [List.take_succ_eq_append_getElem hk, sortU_snoc]
      have := insU_len l[k] (sortU (l.take k))
      omega
    · rw [List.take_of_length_le (by omega)]
      rw [List.take_of_length_le (by omega)] at ih
      omega

set_option maxHeartbeats 2000000 in
theorem refPlaces_any (A : Option Addr) (n c : Nat) (L : List Wr) (w : World) (h : Wrs w A n c L) (hn : n ≤ 1048576) :
    Calls Try.prog 16 #[.slice A n c] w (RetIs w (sortU (L.map Wr.p))) := by
  have hmax := h.2.1.max
  have hcap := h.2.1.cap
  have HL := Lib.hid h.1
  have HH := Lib.hid h; clear h
  go_enter Try.func16, Try.ntmps16
  go_wp2
  go_loopw [3, 4] (fun v i wr => ∃ k : Nat, k ≤ n ∧ i = .int .i64 k ∧ Own w wr 3 1 v (sortU ((L.take k).map Wr.p)).length ((sortU ((L.take k).map Wr.p)).map i64c)) (fun _ i _ => n - (intOf i).toNat)
  case atStart => exact ⟨0, Nat.zero_le _, rfl, Own.nil _ _ _⟩
  case round =>
    obtain ⟨k, hk, rfl, hown⟩ := hrel
    by_cases hlt : k < n
    · have hbel := hown.below
      obtain ⟨b, o, ⟨xp, xr⟩, rfl, hx, c1, c2, hrow, hp1, hp2⟩ := (HH.out.mono hbel).row hlt
      simp only at c1 c2 hrow hp1 hp2
      clear hrow c2
      have HT : Hid (sortU ((L.take (k + 1)).map Wr.p) = insU xp (sortU ((L.take k).map Wr.p))) := by
        have hk : k < L.length := (List.getElem?_eq_some_iff.1 hx).1
        rw [List.getElem?_eq_getElem hk] at hx
        injection hx with hx
        rw [List.take_succ_eq_append_getElem hk, List.map_append, hx, ← sortU_snoc]
        exact rfl
      have hsl : (sortU ((L.take k).map Wr.p)).length ≤ k := by rw [List.map_take]; exact sortU_len _ k
      clear hx
      generalize sortU ((L.take k).map Wr.p) = S at *
      obtain ⟨B, d, rfl, hs⟩ := hown.slice
      have HS : Hid (Is wr B S.length d S) := hs
      have md := Sl.max hs
      have cd := Sl.cap hs
      have HO := Lib.hid hown; clear hown hs
      go_wp2
      go_loopw [5] (fun i wq => ∃ j q : Nat, j ≤ S.length ∧ i = .int .i64 j ∧ wq = wr.drewN q ∧ ∀ t, t < j → iAt S t < xp) (fun i _ => S.length - (intOf i).toNat)
      case atStart => exact ⟨0, 0, Nat.zero_le _, rfl, rfl, fun t ht => by omega⟩
      case round =>
        obtain ⟨j, q, hj, rfl, rfl, hup⟩ := hrel
        have HUP := Lib.hid hup; clear hup
        by_cases hj2 : j < S.length
        · obtain ⟨b3, o3, rfl, hc3⟩ := HS.out.addr (by omega)
          have c3 := hc3 j hj2
          clear hc3
          by_cases h5 : iAt S j < xp
          · have t5 : decide (iAt S j < xp) = true := decide_eq_true h5
            have HUP2 : Hid (∀ t, t < j + 1 → iAt S t < xp) := fun t ht => by
              rcases Nat.lt_or_ge t j with h | h
              · exact HUP.out t h
              · obtain rfl : t = j := by omega
                exact h5
            go_wp2
            go_quiet (fail)
            go_wp2
            go_roundw
            case rel => exact ⟨j + 1, _, by omega, by go_num, rfl, HUP2.out⟩
            case measure => simp [intOf]; omega
          · have t5 : decide (iAt S j < xp) = false := decide_eq_false h5
            have HIU := Lib.hid (insU_at S xp j hj HUP.out (fun _ => by omega))
            obtain ⟨A', hA', hfrom⟩ := run_from tNums (some ⟨b3, o3, none⟩) S.length d j hj cd
            have hupto := fun w => run_upto tNums (some ⟨b3, o3, none⟩) S.length d j (by omega) w
            have HUT : Hid (Is wr (some ⟨b3, o3, none⟩) j d (S.take j)) := by have h := Sl.upto HS.out hj; rw [← List.map_take] at h; exact h
            have HFR : Hid (Is wr A' (S.length - j) (d - j) (S.drop j)) := by have h := Sl.from HS.out hj (fun h b o e => by have := hA' h b o e; rwa [Nat.mul_one] at this); rw [← List.map_drop] at h; exact h
            have hblt : b < wr.heap.size := World.block_lt_of_cell? wr _ c1
            clear hA'
            by_cases h6 : iAt S j = xp
            · have t6 : (iAt S j != xp) = false := by simp [h6]
              have t7 : ((j : Int) == (S.length : Int)) = false := by simp; omega
              have HIN : Hid (insU xp S = S) := by rw [HIU.out, if_pos ⟨hj2, h6⟩]; exact rfl
              clear h6 hupto hfrom
              go_wp2
              go_quiet (fail)
              go_wp2
              go_quiet (fail)
              go_wp2
              go_roundw
              case rel => exact ⟨k + 1, by omega, by go_num, by rw [HT.out, HIN.out]; exact HO.out.drewN _⟩
              case measure => simp [intOf]; omega
            · have t6 : (iAt S j != xp) = true := by simpa using h6
              have t7 : ((j : Int) == (S.length : Int)) = false := by simp; omega
              have HIN : Hid (insU xp S = S.take j ++ [xp] ++ S.drop j) := by rw [HIU.out, if_neg (fun h => h6 h.2)]; exact rfl
              clear h6
              go_wp2
              go_quiet (fail)
              go_wp2
              go_quiet (fail)
              go_wp2_with (first
                | (at_builtin; refine wpList_cat rfl (.tmp 47) (.tmp 50) 31 rfl tNums rfl (by exact (Blk.new _ 3 #[]).own (Nat.le_refl _) ((Below.refl _ _).alloc (Nat.le_refl _) _) rfl (Nat.zero_le _)) rfl (by exact ((HUT.out.mono (belowN (Below.refl _ _) _)).mono ((Below.refl _ _).alloc (Nat.le_refl _) _))) (one_nums _) (by omega) ?_; intro v1 w1 o1; have e1 : w1.cell? ⟨b, o + k * 2, none⟩ = some (.int .i64 xp) := (o1.below.cell (p := ⟨b, o + k * 2, none⟩) hblt).trans c1)
                | (at_builtin; refine wpList_push rfl (.tmp 52) (.tmp 58) 31 rfl tNums rfl o1 #[_] rfl rfl (one_int _ _) (by omega) ?_; intro v2 w2 o2)
                | (at_builtin; refine wpList_cat rfl (.tmp 60) (.tmp 63) 31 rfl tNums rfl o2 rfl (by exact ((HFR.out.mono (belowN (Below.refl _ _) _)).mono o2.below)) (one_nums _) (by omega) ?_; intro v3 w3 o3))
              go_roundw
              case rel =>
                refine ⟨k + 1, by omega, by go_num, ?_⟩
                rw [HT.out, HIN.out]
                have h := o3.base (belowN hbel _)
                simp only [List.nil_append, Nat.zero_add] at h
                have e1 : (S.take j ++ [xp] ++ S.drop j).length = j + 1 + (S.length - j) := by simp; omega
                have e2 : (S.take j ++ [xp] ++ S.drop j).map i64c = (S.take j).map i64c ++ #[Value.int .i64 xp].toList ++ (S.drop j).map i64c := by rw [List.map_append, List.map_append]; rfl
                rw [e1, e2]
                exact h
              case measure => simp [intOf]; omega
        · have hjl : j = S.length := by omega
          have HIU := Lib.hid (insU_at S xp j hj HUP.out (fun h => by omega))
          obtain ⟨A', hA', hfrom⟩ := run_from tNums B S.length d j hj cd
          have hupto := fun w => run_upto tNums B S.length d j (by omega) w
          have HUT : Hid (Is wr B j d (S.take j)) := by have h := Sl.upto HS.out hj; rw [← List.map_take] at h; exact h
          have HFR : Hid (Is wr A' (S.length - j) (d - j) (S.drop j)) := by have h := Sl.from (A' := A') HS.out hj (fun h b o e => by omega); rw [← List.map_drop] at h; exact h
          have hblt : b < wr.heap.size := World.block_lt_of_cell? wr _ c1
          have HIN : Hid (insU xp S = S.take j ++ [xp] ++ S.drop j) := by rw [HIU.out, if_neg (fun h => by omega)]; exact rfl
          have t7 : ((j : Int) == (S.length : Int)) = true := by simp; omega
          have t8 : decide ((j : Int) < (S.length : Int)) = false := by simp; omega
          clear hA' hjl
          go_wp2
          go_quiet (fail)
          go_wp2
          go_quiet (fail)
          clear hj2 t7 t8
          go_wp2_with (first
            | (at_builtin; refine wpList_cat rfl (.tmp 47) (.tmp 50) 31 rfl tNums rfl (by exact (Blk.new _ 3 #[]).own (Nat.le_refl _) ((Below.refl _ _).alloc (Nat.le_refl _) _) rfl (Nat.zero_le _)) rfl (by exact ((HUT.out.mono (belowN (Below.refl _ _) _)).mono ((Below.refl _ _).alloc (Nat.le_refl _) _))) (one_nums _) (by omega) ?_; intro v1 w1 o1; have e1 : w1.cell? ⟨b, o + k * 2, none⟩ = some (.int .i64 xp) := (o1.below.cell (p := ⟨b, o + k * 2, none⟩) hblt).trans c1)
            | (at_builtin; refine wpList_push rfl (.tmp 52) (.tmp 58) 31 rfl tNums rfl o1 #[_] rfl rfl (one_int _ _) (by omega) ?_; intro v2 w2 o2)
            | (at_builtin; refine wpList_cat rfl (.tmp 60) (.tmp 63) 31 rfl tNums rfl o2 rfl (by exact ((HFR.out.mono (belowN (Below.refl _ _) _)).mono o2.below)) (one_nums _) (by omega) ?_; intro v3 w3 o3))
          go_roundw
          case rel =>
            refine ⟨k + 1, by omega, by go_num, ?_⟩
            rw [HT.out, HIN.out]
            have h := o3.base (belowN hbel _)
            simp only [List.nil_append, Nat.zero_add] at h
            have e1 : (S.take j ++ [xp] ++ S.drop j).length = j + 1 + (S.length - j) := by simp; omega
            have e2 : (S.take j ++ [xp] ++ S.drop j).map i64c = (S.take j).map i64c ++ #[Value.int .i64 xp].toList ++ (S.drop j).map i64c := by rw [List.map_append, List.map_append]; rfl
            rw [e1, e2]
            exact h
          case measure => simp [intOf]; omega
    · obtain rfl : n = k := by omega
      have HF : Hid (RetIs w (sortU (L.map Wr.p)) (.returned u3) wr) := by
        rw [List.take_of_length_le (by rw [HL.out]; omega)] at hown
        exact ⟨_, rfl, hown⟩
      go_wp2
      go_ret
      exact HF.out
end Go.Proofs.Ytbmijjodpdbbmaa
