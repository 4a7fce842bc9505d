/- The law TermSizes, walked. No condition. -/
import Derived.Test.YthlnoaalhojphaaDoorObOnceW
import Derived.Test.YthlnoaalhojphaaDoorObTermM
import Derived.Outline
namespace Go.Proofs.YthlnoaalhojphaaDoor
open Go.RowKit
set_option linter.unusedVariables false
/-- One more than the first j parts together. -/
def sumTo (T : List Nd) (ps : List Nat) (j : Nat) : Nat := sizeOf' (sizesL T) (ps.take j)
theorem sumTo_succ (T : List Nd) (ps : List Nat) (j : Nat) (hj : j < ps.length) : sumTo T ps (j + 1) = min (sumTo T ps j + (sizesL T).getD (ps.getD j 0 - 1) 0) great := by
  have hgd : ps.getD j 0 = ps[j] := by rw [List.getD_eq_getElem?_getD, List.getElem?_eq_getElem hj]; rfl
  rw [hgd]
  unfold sumTo
  rw [List.take_succ_eq_append_getElem hj]
  unfold sizeOf'
  rw [List.foldl_append]
  rfl
theorem sizeT_part {T : List Nd} {p : Nat} (h1 : 1 ≤ p) (h2 : p ≤ T.length) : sizeT T (p : Int) = (sizesL T).getD (p - 1) 0 := by
  unfold sizeT
  rw [if_neg (by unfold outside; simp; omega)]
  rfl
theorem ints_parts (ps : List Nat) (j : Nat) (hj : j < ps.length) : iAt (ps.map Int.ofNat) j = ((ps.getD j 0 : Nat) : Int) := by
  have h := iAt_get (l := ps.map Int.ofNat) (k := j) (by simpa using hj)
  rw [h]
  simp [hj]
/-- What stands at an id. -/
theorem at_id {T : List Nd} (hT : Parted T) {k : Nat} (h1 : 1 ≤ k) (h2 : k ≤ T.length) : ∃ x, T[k - 1]? = some x ∧ kindOf T (k : Int) = x.k ∧ partsOf T (k : Int) = x.parts ∧ sizeT T (k : Int) = sizeOf' (sizesL T) x.parts ∧ labelT T (k : Int) = (if x.k = 2 ∨ x.k = 3 then x.s else ⟨#[]⟩) ∧ (∀ p ∈ x.parts, 1 ≤ p ∧ p < k) ∧ x.parts.length ≤ 2 := by
  obtain ⟨i, rfl⟩ : ∃ i, k = i + 1 := ⟨k - 1, by omega⟩
  have hi : i < T.length := by omega
  have hx := List.getElem?_eq_getElem hi
  obtain ⟨x, hxe⟩ : ∃ x, x = T[i] := ⟨_, rfl⟩
  rw [← hxe] at hx
  refine ⟨x, by rw [Nat.add_sub_cancel]; exact hx, (kindOf_succ hx).1, (kindOf_succ hx).2, sizeT_at hT hx, ?_, fun p hp => by have := (hT i x hx).2 p hp; omega, ?_⟩
  · unfold labelT
    rw [if_neg (by unfold outside; simp; omega), show (((i + 1 : Nat) : Int)).toNat - 1 = i by omega, hx]
  · unfold Nd.parts; (repeat' split) <;> simp
theorem textT_long {T : List Nd} {id : Int} (h : 1000 < sizeT T id) : textT T id = [] := if_pos (.inr h)
theorem textT_some {T : List Nd} (hT : Parted T) {k : Nat} (h1 : 1 ≤ k) (h2 : k ≤ T.length) (h : sizeT T (k : Int) ≤ 1000) : textT T (k : Int) ≠ [] := by
  obtain ⟨i, rfl⟩ : ∃ i, k = i + 1 := ⟨k - 1, by omega⟩
  have hne : sizeT T ((i + 1 : Nat) : Int) ≠ 0 := fun q => by
    have := (sizeT_zero hT _).1 q
    unfold outside at this
    simp at this
    omega
  unfold textT
  rw [if_neg (by omega)]
  exact printT_ne hT (by omega)
theorem light_parts {L : List Ac} (h : lightA L = true) : L.length ≤ 60 ∧ ∀ x ∈ L, x.s.size ≤ 40 := by
  unfold lightA at h
  simp only [Bool.and_eq_true, decide_eq_true_eq, List.all_eq_true] at h
  exact h
set_option maxRecDepth 100000 in
set_option maxHeartbeats 2000000 in
theorem termSizes_walk (A : Option Addr) (n c : Nat) (L : List Ac) (w : World) (h : Rs Ac.cells 4 w A n c L) (hok : ∀ x ∈ L, x.ok) :
    Calls Tryd.prog 5 #[.slice A n c] w fun e w' => e = .returned (.bool true) ∧ Below w.heap.size w w' := by
  have HLI := Lib.hid (light15_any A n c L w h hok)
  have HAL := Lib.hid alive15_any
  have hmax := h.max
  have hcap := h.cap
  cases hlt : lightA L with
  | false =>
    rw [hlt] at HLI
    clear h hok hlt
    go_enter Tryd.func5, Tryd.ntmps5
    go_wp2_with fail
    refine HLI.out.mono ?_
    rintro e w1 ⟨rfl, rfl⟩
    go_wp2_with fail
    refine (HAL.out _).mono ?_
    rintro e w2 ⟨rfl, b2⟩
    go_wp2_with fail
    go_ret
    exact ⟨rfl, b2⟩
  | true =>
    rw [hlt] at HLI
    have hsm := light_parts hlt
    have hln : L.length = n := h.1
    have HG : Hid (∀ k, k ≤ 1000 → TGood (madeT (L.take k)) k) := madeT_good L hok
    have HS : Hid (∀ k x, L[k]? = some x → madeT (L.take (k + 1)) = stepT (madeT (L.take k)) x) := madeT_snoc L
    have TG := Lib.hid (madeT_all L hok (by omega))
    have TK := Lib.hid (madeT_tc L hsm.2)
    have HL := Lib.hid hln
    have HH := Lib.hid h; have HOK := Lib.hid hok
    have hT60 : (madeT L).length ≤ 60 := by have := TG.out.l; omega
    have hn60 : n ≤ 60 := by omega
    clear h hok hlt hsm hln
    go_enter Tryd.func5, Tryd.ntmps5
    go_wp2_with fail
    refine HLI.out.mono ?_
    rintro e w0 ⟨rfl, rfl⟩
    go_wp2_with fail
    refine (termNew_any w).mono ?_
    rintro e w1 ⟨g, bm, rfl, hf0, hg0⟩
    have HF0 := Lib.hid hf0
    clear hf0 hg0
    go_wp2_with fail
    go_loopw [4] (fun i wr => ∃ (k : Nat) (vl vs : Value), k ≤ n ∧ i = .int .i64 k ∧ TbF w wr g (madeT (L.take k)) vl vs bm) (fun i _ => n - (Go.RowKit.intOf i).toNat)
    case atStart => exact ⟨0, _, _, Nat.zero_le _, rfl, HF0.out⟩
    case round =>
      obtain ⟨k, vl, vs, hk, rfl, htw⟩ := hrel
      have HT := Lib.hid htw; clear htw HF0
      by_cases hlt : k < n
      · obtain ⟨b, o, y, rfl, hy, c0, c1, c2, c3⟩ := Ac.row (HH.out.mono HT.out.below) hlt
        have HY := Lib.hid hy; clear hy
        have HD := Lib.hid (do_any w g (madeT (L.take k)) vl vs bm y.k y.a y.b y.s wr HT.out ((HG.out k (by omega)).i.ok (Nat.le_trans (HG.out k (by omega)).l (by omega))) (HOK.out y (List.mem_of_getElem? HY.out)).2.2.2)
        have t0 : decide ((k : Int) < (n : Int)) = true := decide_eq_true (by omega)
        go_wp2_with fail
        refine HD.out.mono ?_
        rintro e w2 ⟨vl', vs', rfl, hf, hc⟩
        have HF := Lib.hid hf
        clear hf hc c0 c1 c2 c3 HD
        go_wp2_with fail
        refine ⟨⟨k + 1, vl', vs', hlt, by simp, ?_⟩, by simp [Go.RowKit.intOf]; omega⟩
        rw [HS.out k y HY.out]
        exact HF.out
      · obtain rfl : k = n := by omega
        have t0 : decide ((k : Int) < (k : Int)) = false := by simp
        have hT := HT.out
        rw [show L.take k = L from List.take_of_length_le (by rw [HL.out]; exact Nat.le_refl _)] at hT
        have TF := Lib.hid hT; clear hT HT
        generalize madeT L = T at *
        have HRD : Hid (TRd wr g T) := TF.out.rd
        have HSD : Hid (SRd wr g T) := TF.out.srd
        have HBW := Lib.hid TF.out.below
        clear HLI HG HS
        obtain ⟨wx, hwx⟩ : ∃ wx : World, wx = wr := ⟨_, rfl⟩
        subst hwx
        have hT60 := hT60
        go_wp2_with fail
        go_loopw [5] (fun i wr => ∃ k : Nat, 1 ≤ k ∧ k ≤ T.length + 1 ∧ i = .int .i64 k ∧ Gr wx wr) (fun i _ => T.length + 1 - (Go.RowKit.intOf i).toNat)
        case atStart => exact ⟨1, Nat.le_refl _, by omega, rfl, Gr.refl _⟩
        case round =>
          obtain ⟨k, hk1, hkt, rfl, hg⟩ := hrel
          have HGR := Lib.hid hg
          have HLN := Lib.hid (len_any g T wr (HRD.out.mono hg))
          clear hg
          by_cases hlk : k ≤ T.length
          · have t0 : decide ((k : Int) ≤ (T.length : Int)) = true := decide_eq_true (by omega)
            obtain ⟨x, hx, hke, hpe, hse, hle, hpp, hp2⟩ := at_id TG.out.i.parts hk1 hlk
            have HPP := Lib.hid hpp
            have HPA := Lib.hid (fun wq (hq : Gr wx wq) => parts_any g T (k : Int) wq (HRD.out.mono hq) TG.out.i.kinds ⟨by omega, by omega⟩)
            rw [hpe] at HPA
            have HSZ : Hid (∀ (p : Nat) wq, p ≤ T.length → Gr wx wq → Calls Tryd.prog 23 #[.pointer (some ⟨g, 0, none⟩), .int .i64 (p : Int)] wq fun e w' => e = .returned (.int .i64 (sizeT T (p : Int) : Int)) ∧ Gr wq w') := fun p wq hp hq => termSize_any g T (p : Int) wq (HRD.out.mono hq) (HSD.out.mono hq) ⟨by omega, by omega⟩
            have HTX : Hid (∀ wq, Gr wx wq → Calls Tryd.prog 24 #[.pointer (some ⟨g, 0, none⟩), .int .i64 (k : Int)] wq fun e w' => e = .returned (.string ⟨(textT T (k : Int)).toArray⟩) ∧ Gr wq w') := fun wq hq => termPrint_any g T (k : Int) wq (HRD.out.mono hq) (HSD.out.mono hq) TG.out.i.parts TG.out.i.kinds (TK.out.brief (by omega)) (by omega) ⟨by omega, by omega⟩
            have HT1 : Hid (1000 < sizeT T (k : Int) → textT T (k : Int) = []) := textT_long
            have HT2 : Hid (sizeT T (k : Int) ≤ 1000 → textT T (k : Int) ≠ []) := textT_some TG.out.i.parts hk1 hlk
            have HSE : Hid (sizeT T (k : Int) = sumTo T x.parts x.parts.length) := by show _ = _; unfold sumTo; rw [List.take_length]; exact hse
            clear hx hke hle hpp hse hpe
            generalize hps : x.parts = ps at *
            clear hps
            go_wp2_with fail
            refine HLN.out.mono ?_
            rintro e w2 ⟨rfl, h2⟩
            obtain rfl : wr = w2 := h2
            go_wp2_with fail
            refine (HPA.out _ HGR.out).mono ?_
            rintro e w3 ⟨A3, c3, rfl, i3, g3, _⟩
            have I3 := Lib.hid i3; have G3 := Lib.hid (HGR.out.trans g3)
            have hc3 := i3.cap; have hm3 := i3.max
            clear i3 g3 t0
            rw [List.length_map] at hc3 ⊢
            go_wp2_with fail
            go_loopw [6, 8] (fun nn q wq => ∃ j : Nat, j ≤ ps.length ∧ q = .int .i64 j ∧ nn = .int .i64 ((sumTo T ps j : Nat) : Int) ∧ Gr w3 wq) (fun _ q _ => ps.length - (Go.RowKit.intOf q).toNat)
            case atStart => exact ⟨0, Nat.zero_le _, rfl, rfl, Gr.refl _⟩
            case round =>
              obtain ⟨j, hj, rfl, rfl, hgq⟩ := hrel
              obtain ⟨wy, hwy⟩ : ∃ wy : World, wy = wr := ⟨_, rfl⟩
              subst hwy
              have GQ := Lib.hid hgq; clear hgq
              by_cases hlj : j < ps.length
              · have t1 : decide ((j : Int) < (ps.length : Int)) = true := decide_eq_true (by omega)
                obtain ⟨b3, o3, rfl, hc3'⟩ := Is.addr (I3.out.mono GQ.out) (by rw [List.length_map]; omega)
                have hpr := HPP.out ps[j] (List.getElem_mem hlj)
                have hgd : ps.getD j 0 = ps[j] := by rw [List.getD_eq_getElem?_getD, List.getElem?_eq_getElem hlj]; rfl
                have u0 := hc3' j (by rw [List.length_map]; exact hlj)
                rw [ints_parts ps j hlj] at u0
                have HSS := Lib.hid (sumTo_succ T ps j hlj)
                have HSP := Lib.hid (sizeT_part (T := T) (p := ps.getD j 0) (by omega) (by omega))
                have hps : ps.getD j 0 ≤ T.length := by omega
                have hle : sumTo T ps j ≤ 1073741824 := sizeOf'_le _ _
                have hle2 : (sizesL T).getD (ps.getD j 0 - 1) 0 ≤ 1073741824 := (sizesL_small T).at _
                rw [← HSP.out] at hle2 HSS
                have HSJ := Lib.hid (HSZ.out (ps.getD j 0) _ hps (G3.out.trans GQ.out))
                clear hc3' hpr hgd hps
                generalize ps.getD j 0 = p at *
                generalize sumTo T ps j = a at *
                generalize sizeT T (p : Int) = s at HSJ HSS hle2
                go_wp2_with fail
                refine HSJ.out.mono ?_
                rintro e w4 ⟨rfl, g4⟩
                have G4 := Lib.hid (GQ.out.trans g4); clear g4
                go_wp2_with fail
                exact ⟨⟨j + 1, by omega, by simp, by rw [HSS.out]; unfold great; congr 1; omega, G4.out⟩, by simp [Go.RowKit.intOf]; omega⟩
              · obtain rfl : j = ps.length := by omega
                have t1 : decide ((ps.length : Int) < (ps.length : Int)) = false := by simp
                have HSK := Lib.hid (HSZ.out k _ hlk (G3.out.trans GQ.out))
                rw [HSE.out] at HSK HT1 HT2
                have HTG := Lib.hid (fun wq (hq : Gr w3 wq) => HTX.out wq (G3.out.trans hq))
                have HGX := Lib.hid (fun wq (hq : Gr w3 wq) => G3.out.trans hq)
                clear HTX HSE HSZ HPA
                generalize sumTo T ps ps.length = s at *
                generalize textT T (k : Int) = tx at *
                by_cases h1000 : 1000 < s
                · have e1 := HT1.out h1000
                  subst e1
                  have t2 : decide (1000 < (s : Int)) = true := decide_eq_true (by omega)
                  have t3 : decide ((s : Int) ≤ 40) = false := decide_eq_false (by omega)
                  clear HT1 HT2
                  go_wp2_with fail
                  refine HSK.out.mono ?_
                  rintro e w4 ⟨rfl, g4⟩
                  have G4 := Lib.hid (GQ.out.trans g4); clear g4
                  go_wp2_with fail
                  refine (HTG.out _ G4.out).mono ?_
                  rintro e w5 ⟨rfl, g5⟩
                  have G5 := Lib.hid (HGX.out _ (G4.out.trans g5)); clear g5
                  go_wp2_with fail
                  exact ⟨⟨k + 1, by omega, by omega, by simp, G5.out⟩, by simp [Go.RowKit.intOf]; omega⟩
                · have t2 : decide (1000 < (s : Int)) = false := decide_eq_false (by omega)
                  have e1 := HT2.out (by omega)
                  have t4 : (tx == []) = false := by
                    rw [beq_eq_false_iff_ne]
                    exact e1
                  clear HT1 HT2 e1
                  by_cases h40 : s ≤ 40
                  · have t3 : decide ((s : Int) ≤ 40) = true := decide_eq_true (by omega)
                    go_wp2_with fail
                    refine HSK.out.mono ?_
                    rintro e w4 ⟨rfl, g4⟩
                    have G4 := Lib.hid (GQ.out.trans g4); clear g4
                    go_wp2_with fail
                    refine (HTG.out _ G4.out).mono ?_
                    rintro e w5 ⟨rfl, g5⟩
                    have G5 := Lib.hid (HGX.out _ (G4.out.trans g5)); clear g5
                    go_wp2_with fail
                    exact ⟨⟨k + 1, by omega, by omega, by simp, G5.out⟩, by simp [Go.RowKit.intOf]; omega⟩
                  · have t3 : decide ((s : Int) ≤ 40) = false := decide_eq_false (by omega)
                    go_wp2_with fail
                    refine HSK.out.mono ?_
                    rintro e w4 ⟨rfl, g4⟩
                    have G4 := Lib.hid (HGX.out _ (GQ.out.trans g4)); clear g4
                    go_wp2_with fail
                    exact ⟨⟨k + 1, by omega, by omega, by simp, G4.out⟩, by simp [Go.RowKit.intOf]; omega⟩
          · obtain rfl : k = T.length + 1 := by omega
            have t0 : decide (((T.length + 1 : Nat) : Int) ≤ (T.length : Int)) = false := decide_eq_false (by omega)
            have t1 : decide ((T.length : Int) + 1 ≤ (T.length : Int)) = false := decide_eq_false (by omega)
            go_wp2_with fail
            refine HLN.out.mono ?_
            rintro e w2 ⟨rfl, h2⟩
            obtain rfl : wr = w2 := h2
            go_wp2_with fail
            refine (HAL.out _).mono ?_
            rintro e w4 ⟨rfl, b4⟩
            have B4 := Lib.hid (below_both HBW.out (HGR.out.trans b4)); clear b4
            go_wp2_with fail
            go_ret
            exact ⟨rfl, B4.out⟩
end Go.Proofs.YthlnoaalhojphaaDoor
