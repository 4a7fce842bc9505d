/- Names: the reference's Below. No condition. -/
import Derived.Test.YtciokbponfilfaaDoorObGrpL
import Derived.Test.YtciokbponfilfaaDoorObNameM
import Derived.Outline
namespace Go.Proofs.YtciokbponfilfaaDoor
open Go.RowKit
set_option linter.unusedVariables false
set_option linter.unusedSimpArgs false
theorem belowR_end {a b : List (List UInt8)} (h : ¬ (b.length = 0 ∨ a.length ≤ b.length)) : belowR a b = (a.take b.length == b) := if_neg h
theorem belowR_not {a b : List (List UInt8)} {k : Nat} (hb : k < b.length) (ha : k < a.length) (he : ¬ a[k] = b[k]) : belowR a b = false := by
  unfold belowR
  split
  · rfl
  · apply beq_eq_false_iff_ne.2
    intro e
    apply he
    have := congrArg (fun l => l[k]?) e
    simp only [List.getElem?_take, if_pos hb, List.getElem?_eq_getElem ha, List.getElem?_eq_getElem hb] at this
    exact Option.some.inj this
set_option maxRecDepth 100000 in
set_option maxHeartbeats 1000000 in
theorem refBelow_any (s t : List UInt8) (w : World) (hs : s.length ≤ 100000) (ht : t.length ≤ 100000) : Calls Tryd.prog 21 #[strc s, strc t] w fun e w' => e = .returned (.bool (belowR (splitL s) (splitL t))) ∧ Gr w w' := by
  have HS : Hid (Calls Tryd.prog 11 #[strc s] w (RetWs w (splitL s))) := refSplit_any s w hs
  have HT : Hid (∀ wr, Calls Tryd.prog 11 #[strc t] wr (RetWs wr (splitL t))) := fun wr => refSplit_any t wr ht
  obtain ⟨sx, hsx⟩ : ∃ sx : ByteArray, strc s = .string sx := ⟨_, rfl⟩
  obtain ⟨tx, htx⟩ : ∃ tx : ByteArray, strc t = .string tx := ⟨_, rfl⟩
  rw [hsx] at HS ⊢
  rw [htx] at HT ⊢
  clear hsx htx
  generalize splitL s = a at *
  generalize splitL t = b at *
  obtain ⟨r, hr⟩ : ∃ r, r = belowR a b := ⟨_, rfl⟩
  rw [← hr]
  have HR := Lib.hid hr; clear hr
  go_enter Tryd.func21, Tryd.ntmps21
  go_wp2_with fail
  refine HS.out.mono ?_
  rintro e w1 ⟨v1, rfl, o1⟩
  obtain ⟨A, c, rfl, s1⟩ := o1.slice
  have G1 := Lib.hid o1.below; have S1 := Lib.hid s1
  clear o1 s1
  go_wp2_with fail
  refine (HT.out _).mono ?_
  rintro e w2 ⟨v2, rfl, o2⟩
  obtain ⟨B, d, rfl, s2⟩ := o2.slice
  have G2 := Lib.hid (Gr.trans G1.out o2.below); have SA := Lib.hid (Sl.gr S1.out o2.below); have SB := Lib.hid s2
  have hca := SA.out.cap
  have hma := SA.out.max
  have hcb := SB.out.cap
  have hmb := SB.out.max
  clear o2 s2 S1
  by_cases h0 : b.length = 0
  · have t0 : ((b.length : Int) == 0) = true := beq_iff_eq.2 (by omega)
    have HF : Hid (r = false) := by show _ = _; rw [HR.out]; exact if_pos (.inl h0)
    go_wp2_with fail
    go_ret
    exact ⟨by rw [HF.out]; rfl, G2.out⟩
  have t0 : ((b.length : Int) == 0) = false := beq_eq_false_iff_ne.2 (by omega)
  by_cases hle : a.length ≤ b.length
  · have t1 : decide ((a.length : Int) ≤ (b.length : Int)) = true := decide_eq_true (by omega)
    have HF : Hid (r = false) := by show _ = _; rw [HR.out]; exact if_pos (.inr hle)
    go_wp2_with fail
    go_ret
    exact ⟨by rw [HF.out]; rfl, G2.out⟩
  have t1 : decide ((a.length : Int) ≤ (b.length : Int)) = false := decide_eq_false (by omega)
  go_wp2_with fail
  go_loopw [7] (fun i wr => ∃ k q : Nat, k ≤ b.length ∧ i = .int .i64 k ∧ wr = w2.drewN q ∧ a.take k = b.take k) (fun i _ => b.length - (intOf i).toNat)
  case atStart => exact ⟨0, 0, Nat.zero_le _, rfl, rfl, rfl⟩
  case round =>
    obtain ⟨k, q, hk, rfl, rfl, hsame⟩ := hrel
    have HSM := Lib.hid hsame; clear hsame
    by_cases hlt : k < b.length
    · obtain ⟨b1, o1, rfl, hc1⟩ := Ws.addr SA.out (by omega)
      obtain ⟨b2, o2, rfl, hc2⟩ := Ws.addr SB.out (by omega)
      have hka : k < a.length := by omega
      have c1 : w2.cell? ⟨b1, o1 + k, none⟩ = some _ := hc1 k hka
      have c2 : w2.cell? ⟨b2, o2 + k, none⟩ = some _ := hc2 k hlt
      have HS1 := Lib.hid (fun he => takeW_same hka hlt HSM.out he)
      have HS2 : Hid (¬ a[k] = b[k] → r = false) := fun he => by rw [HR.out]; exact belowR_not hlt hka he
      clear hc1 hc2
      generalize a[k] = x at *
      generalize b[k] = y at *
      obtain ⟨xs, hxs⟩ : ∃ xs : ByteArray, xs = ⟨x.toArray⟩ := ⟨_, rfl⟩
      obtain ⟨ys, hys⟩ : ∃ ys : ByteArray, ys = ⟨y.toArray⟩ := ⟨_, rfl⟩
      rw [← hxs] at c1
      rw [← hys] at c2
      have hxl : xs.toList = x := by rw [ByteArray.toList_eq, hxs]
      have hyl : ys.toList = y := by rw [ByteArray.toList_eq, hys]
      clear hxs hys
      by_cases he : x = y
      · have t1 : (xs.toList == ys.toList) = true := by rw [hxl, hyl, he]; simp
        have HE := Lib.hid (HS1.out he); clear he hxl hyl
        go_wp2
        go_quiet (fail)
        go_wp2
        refine ⟨⟨k + 1, _, by omega, by first | trivial | go_num, rfl, HE.out⟩, ?_⟩
        show b.length - ((k : Int) + 1).toNat < b.length - (k : Int).toNat
        omega
      · have t1 : (xs.toList == ys.toList) = false := by rw [hxl, hyl]; exact beq_eq_false_iff_ne.2 he
        have HE := Lib.hid (HS2.out he); clear he hxl hyl
        go_wp2
        go_quiet (fail)
        go_wp2
        go_ret
        exact ⟨by rw [HE.out]; rfl, by rw [World.drewN_drewN]; exact belowN G2.out _⟩
    · obtain rfl : k = b.length := by omega
      have HE : Hid (r = true) := by
        show _ = _
        rw [HR.out, belowR_end (by omega), HSM.out, List.take_of_length_le (Nat.le_refl _)]
        simp
      go_wp2
      go_ret
      exact ⟨by rw [HE.out]; rfl, belowN G2.out _⟩
end Go.Proofs.YtciokbponfilfaaDoor
