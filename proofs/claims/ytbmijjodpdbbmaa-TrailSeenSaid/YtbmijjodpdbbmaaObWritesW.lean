import Derived.Test.YtbmijjodpdbbmaaObOfR
namespace Go.Proofs.Ytbmijjodpdbbmaa
open Go.RowKit Go.Maps
set_option linter.unusedVariables false

set_option maxHeartbeats 1000000 in
theorem writes_any (A B : Option Addr) (n m c d : Nat) (L M : List Wr) (w : World) (ha : Wrs w A n c L) (hb : Wrs w B m d M) :
    Calls Try.prog 12 #[.slice A n c, .slice B m d] w fun e w' => e = .returned (.bool (L.map Wr.k == M.map Wr.k)) ∧ Below w.heap.size w w' := by
  have ma := ha.2.1.max
  have ca := ha.2.1.cap
  have mb := hb.2.1.max
  have cb := hb.2.1.cap
  have HLA := Lib.hid ha.1; have HLB := Lib.hid hb.1
  have HA := Lib.hid ha; have HB := Lib.hid hb; clear ha hb
  by_cases hnm : n = m
  · subst hnm
    have t1 : ((n : Int) != (n : Int)) = false := by simp
    go_enter Try.func12, Try.ntmps12
    go_wp2
    clear t1
    go_loopw [5] (fun i wr => ∃ j : Nat, j ≤ n ∧ i = .int .i64 j ∧ Below w.heap.size w wr ∧ (L.take j).map Wr.k = (M.take j).map Wr.k) (fun i _ => n - (intOf i).toNat)
    case atStart => exact ⟨0, Nat.zero_le _, rfl, Below.refl _ _, rfl⟩
    case round =>
      obtain ⟨j, hj, rfl, hbel, hsame⟩ := hrel
      have HS := Lib.hid hsame; clear hsame
      by_cases hlt : j < n
      · obtain ⟨b1, o1, ⟨xp, xr⟩, rfl, hx, c1, c2, hrow, hp1, hp2⟩ := (HA.out.mono hbel).row hlt
        obtain ⟨b2, o2, ⟨yp, yr⟩, rfl, hy, c3, c4, hrow2, hp3, hp4⟩ := (HB.out.mono hbel).row hlt
        simp only at c1 c2 c3 c4 hrow hrow2 hp1 hp2 hp3 hp4
        have HX := Lib.hid hx; have HY := Lib.hid hy; clear hx hy
        have HR1 := Lib.hid hrow; have HR2 := Lib.hid hrow2; clear hrow hrow2
        have HTK : Hid ((L.take (j + 1)).map Wr.k = (L.take j).map Wr.k ++ [(xp, xr.l)] ∧ (M.take (j + 1)).map Wr.k = (M.take j).map Wr.k ++ [(yp, yr.l)]) := by
          have h1 : j < L.length := (List.getElem?_eq_some_iff.1 HX.out).1
          have h2 : j < M.length := (List.getElem?_eq_some_iff.1 HY.out).1
          have e1 := HX.out
          have e2 := HY.out
          rw [List.getElem?_eq_getElem h1] at e1
          rw [List.getElem?_eq_getElem h2] at e2
          injection e1 with e1
          injection e2 with e2
          rw [List.take_succ_eq_append_getElem h1, List.take_succ_eq_append_getElem h2, List.map_append, List.map_append, e1, e2]
          exact ⟨rfl, rfl⟩
        have HNO : Hid ((xp, xr.l) ≠ (yp, yr.l) → (L.map Wr.k == M.map Wr.k) = false) := by
          intro hne
          apply beq_eq_false_iff_ne.2
          intro h
          have h1 : (L.map Wr.k)[j]? = (M.map Wr.k)[j]? := by rw [h]
          rw [List.getElem?_map, List.getElem?_map, HX.out, HY.out] at h1
          simp only [Option.map_some, Option.some.injEq] at h1
          exact hne h1
        by_cases he : xp = yp
        · have t1 : (xp != yp) = false := by simp [he]
          have HEQ := Lib.hid he; clear he
          cases hs : xr.l == yr.l
          · have HE : Hid ((L.map Wr.k == M.map Wr.k) = false) := HNO.out (fun h => by
              have := congrArg Prod.snd h
              rw [beq_eq_false_iff_ne] at hs
              exact hs this)
            go_wp2
            go_quiet ((go_at_call 33; exact quiet_read (refSame_any _ _ _ _ _ _ _ _ _ (by exact HR1.out.mono (belowN (Below.refl _ _) _)) (by exact HR2.out.mono (belowN (Below.refl _ _) _)))))
            go_wp2
            go_ret
            exact ⟨ret_bool HE.out.symm, belowN hbel _⟩
          · have HE : Hid ((L.take (j + 1)).map Wr.k = (M.take (j + 1)).map Wr.k) := by
              rw [HTK.out.1, HTK.out.2, HS.out, HEQ.out, beq_iff_eq.1 hs]
              exact rfl
            go_wp2
            go_quiet ((go_at_call 33; exact quiet_read (refSame_any _ _ _ _ _ _ _ _ _ (by exact HR1.out.mono (belowN (Below.refl _ _) _)) (by exact HR2.out.mono (belowN (Below.refl _ _) _)))))
            go_wp2
            go_roundw
            case rel => exact ⟨j + 1, by omega, by go_num, belowN hbel _, HE.out⟩
            case measure => simp [intOf]; omega
        · have t1 : (xp != yp) = true := by simpa using he
          have HE : Hid ((L.map Wr.k == M.map Wr.k) = false) := HNO.out (fun h => he (congrArg Prod.fst h))
          clear he
          go_wp2
          go_quiet (fail)
          go_wp2
          go_ret
          exact ⟨ret_bool HE.out.symm, belowN hbel _⟩
      · obtain rfl : j = n := by omega
        have HE : Hid ((L.map Wr.k == M.map Wr.k) = true) := by
          have h := HS.out
          rw [List.take_of_length_le (by rw [HLA.out]; omega), List.take_of_length_le (by rw [HLB.out]; omega)] at h
          exact beq_iff_eq.2 h
        go_wp2
        go_ret
        exact ⟨ret_bool HE.out.symm, hbel⟩
  · have t1 : ((n : Int) != (m : Int)) = true := by rw [bne_iff_ne]; omega
    have HE : Hid ((L.map Wr.k == M.map Wr.k) = false) := by
      apply beq_eq_false_iff_ne.2
      intro h
      have := congrArg List.length h
      rw [List.length_map, List.length_map, HLA.out, HLB.out] at this
      exact hnm this
    go_enter Try.func12, Try.ntmps12
    go_wp2
    go_ret
    exact ⟨ret_bool HE.out.symm, Below.refl _ _⟩
end Go.Proofs.Ytbmijjodpdbbmaa
