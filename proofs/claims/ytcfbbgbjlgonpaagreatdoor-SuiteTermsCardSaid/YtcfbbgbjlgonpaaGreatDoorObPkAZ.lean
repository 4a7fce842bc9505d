/- Own texts of this claim, one behind the other. No condition. -/
import Derived.Test.YtcfbbgbjlgonpaaGreatDoorObPkAV
import Derived.Test.YtcfbbgbjlgonpaaGreatDoorObPkAY

/- The reference of layer 17, of terms: number; the sums. No condition. -/
namespace Go.Proofs.YtcfbbgbjlgonpaaGreatDoor
open Go.RowKit
set_option linter.unusedVariables false
set_option linter.unusedSimpArgs false
set_option maxRecDepth 100000 in
set_option maxHeartbeats 1000000 in
theorem number_any (A B D : Option Addr) (n c m e0 q0 f : Nat) (L : List BRow) (b : List UInt8) (w : World) (hB : Bss w B m e0 L) (hb : Bs w D q0 f b) (hm : m ≤ 1000) :
    Calls Tryz.prog 109 #[tv A n c B m e0, .slice D q0 f] w fun e w' => e = .returned (.int .i64 (numI (numL (L.map (·.l)) b))) ∧ Gr w w' := by
  have hcp := hb.cap; have hmx := hb.max
  have hcB := hB.1.cap; have hmB := hB.1.max
  have HLL : Hid (L.length = m) := hB.len
  have HBB := Lib.hid hB; have HB := Lib.hid hb
  unfold tv
  show Calls _ _ #[.agg #[.bool false, .slice none 0 0, .int .i64 0, .slice A n c, .slice B m e0], _] _ _
  clear hB hb
  obtain ⟨W, hW⟩ : ∃ W, W = tw1 w A n c B m e0 := ⟨_, rfl⟩
  have HX := Lib.hid (tw1_a w A n c B m e0); have HG := Lib.hid (tw1_g w A n c B m e0)
  rw [← hW] at HX HG
  unfold tw1 at hW
  have HW := Lib.hid hW
  clear hW
  go_enter Tryz.func109, Tryz.ntmps109
  go_upto_region 1 with fail
  rw [← HW.out]
  obtain ⟨h, hh⟩ : ∃ h, h = w.heap.size := ⟨_, rfl⟩
  rw [← hh] at HX ⊢
  clear hh HW
  go_wp2_with fail
  go_loopw [5] (fun i wr => ∃ k : Nat, k ≤ m ∧ i = .int .i64 k ∧ Gr W wr ∧ ∀ j l', j < k → (L.map (·.l))[j]? = some l' → (l' == b) = false) (fun i _ => m - (Go.RowKit.intOf i).toNat)
  case atStart => exact ⟨0, Nat.zero_le _, rfl, Gr.refl _, fun j l' hj => absurd hj (by omega)⟩
  case round =>
    obtain ⟨k, hk, rfl, hbel, hall⟩ := hrel
    have HA := Lib.hid hall; clear hall
    have HBE := Lib.hid hbel; clear hbel
    have c4 : wr.cell? ⟨h, 4, none⟩ = some (.slice B m e0) := (HBE.out.blk HX.out).cell 4
    by_cases hlt : k < m
    · obtain ⟨b1, o1, rfl, hc1⟩ := (HBB.out.mono (HG.out.trans HBE.out)).1.addr (by omega)
      have hkl : k < L.length := by rw [HLL.out]; exact hlt
      have hr0 : L[k]? = some L[k] := List.getElem?_eq_getElem hkl
      have cr := hc1 k L[k].v (by rw [List.getElem?_map, hr0]; rfl)
      have hkr := HBB.out.2 L[k] (List.getElem_mem hkl)
      have HS : Hid ((L.map (·.l))[k]? = some L[k].l) := by show _ = _; rw [List.getElem?_map, hr0]; rfl
      clear hc1 hr0
      generalize L[k] = z at *
      obtain ⟨za, zn, zc, zl⟩ := z
      simp only [BRow.v] at cr
      have HKR : Hid (Bs w za zn zc zl) := hkr
      have HSM := Lib.hid (refSame_any za D zn q0 zc f zl b wr (HKR.out.mono (HG.out.trans HBE.out)) (HB.out.mono (HG.out.trans HBE.out)))
      clear hkr
      cases hv : zl == b with
      | true =>
        have HF : Hid (numL (L.map (·.l)) b = some k) := numL_some HS.out hv HA.out
        rw [hv] at HSM
        clear hv
        go_wp2_with fail
        refine HSM.out.mono ?_
        rintro e w1 ⟨rfl, k1, rfl⟩
        go_wp2_with fail
        go_ret
        exact ⟨by rw [HF.out]; rfl, belowN (HG.out.trans HBE.out) k1⟩
      | false =>
        have HF : Hid (∀ j l', j < k + 1 → (L.map (·.l))[j]? = some l' → (l' == b) = false) := fun j l' hj he => by
          by_cases hjk : j < k
          · exact HA.out j l' hjk he
          · obtain rfl : j = k := by omega
            have := HS.out
            rw [he] at this
            injection this with this
            rw [this]; exact hv
        rw [hv] at HSM
        clear hv
        go_wp2_with fail
        refine HSM.out.mono ?_
        rintro e w1 ⟨rfl, k1, rfl⟩
        have G1 : Hid (Gr W (wr.drewN k1)) := belowN HBE.out k1
        go_wp2_with fail
        refine ⟨⟨k + 1, by omega, by first | trivial | go_num, G1.out, HF.out⟩, ?_⟩
        show m - ((k : Int) + 1).toNat < m - (k : Int).toNat
        omega
    · obtain rfl : k = m := by omega
      have HF : Hid (numL (L.map (·.l)) b = none) := numL_none fun j l' he => HA.out j l' (by have := (List.getElem?_eq_some_iff.1 he).1; rw [List.length_map, HLL.out] at this; exact this) he
      have t0 : decide ((k : Int) < (k : Int)) = false := decide_eq_false (by omega)
      go_wp2_with fail
      go_ret
      exact ⟨by rw [HF.out]; rfl, HG.out.trans HBE.out⟩
end Go.Proofs.YtcfbbgbjlgonpaaGreatDoor
