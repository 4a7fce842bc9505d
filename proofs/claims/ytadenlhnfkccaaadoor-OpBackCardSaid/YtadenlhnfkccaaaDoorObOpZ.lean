/- Operations as lines: the reference's Print. No condition. -/
import Derived.Test.YtadenlhnfkccaaaDoorObOpY
import Derived.Test.YtadenlhnfkccaaaDoorObOpD
import Derived.Outline
namespace Go.Proofs.YtadenlhnfkccaaaDoor
open Go.RowKit
set_option linter.unusedVariables false
set_option linter.unusedSimpArgs false
theorem kinds_out (n : Int) (w : World) (h : n < 1 ∨ 9 < n) : Calls Tryd.prog 28 #[.int .i64 n] w fun e w' => e = .returned (.tuple #[strc [], strc []]) ∧ Gr w w' := by
  by_cases h1 : n < 1
  · have t1 : decide (n < 1) = true := decide_eq_true h1
    go_enter Tryd.func28, Tryd.ntmps28
    go_wp2_with fail
    go_ret2
    exact ⟨rfl, (Gr.alloc w _).trans (Gr.alloc _ _)⟩
  · have t1 : decide (n < 1) = false := decide_eq_false h1
    have t2 : decide (9 < n) = true := decide_eq_true (by omega)
    go_enter Tryd.func28, Tryd.ntmps28
    go_wp2_with fail
    go_ret2
    exact ⟨rfl, (Gr.alloc w _).trans (Gr.alloc _ _)⟩
theorem printL_len {n : Int} (h : n ≤ 1073741824) : (printL n).length ≤ 10 := by
  by_cases h0 : n < 0
  · unfold printL; rw [if_pos h0]; simp
  · obtain ⟨u, rfl⟩ := Int.eq_ofNat_of_zero_le (show 0 ≤ n by omega)
    have e : printL (u : Int) = Lib.decDigits u := by unfold printL; rw [if_neg (by omega)]; rfl
    rw [e]
    obtain ⟨_, i2, i3, _, i5, _⟩ := dec_back u
    rcases Nat.lt_or_ge 10 (Lib.decDigits u).length with h | h
    · by_cases hu : 1 ≤ u
      · have h2 := i5 hu
        have h3 : 10 ^ 10 ≤ 10 ^ ((Lib.decDigits u).length - 1) := Nat.pow_le_pow_right (by decide) (by omega)
        have h4 : (10 : Nat) ^ 10 = 10000000000 := by decide
        omega
      · rw [dec_small u (by omega)] at h; simp at h
    · exact h
theorem countT_len (n : Int) : (countT n).length ≤ 10 := by
  unfold countT
  split
  · simp
  · exact printL_len (by omega)
theorem partT_len (l : List UInt8) : (partT l).length ≤ l.length := by unfold partT; split <;> simp
theorem sayT_len (n : Int) : (sayT n).length ≤ 10 := by
  unfold sayT
  split
  · decide
  · split
    · decide
    · split
      · decide
      · simp
theorem field_len (o : OpD) (s : Nat) (hg : o.g.length ≤ 1000) (hi : o.i.length ≤ 1000) : (fieldL o s).length ≤ 1000 := by
  have := partT_len o.g
  have := partT_len o.i
  have := countT_len o.e
  have := countT_len o.s
  have := countT_len o.n
  have := sayT_len o.v
  unfold fieldL
  split
  · omega
  · split
    · omega
    · split
      · omega
      · split
        · omega
        · split
          · omega
          · split
            · omega
            · split
              · split
                · rw [hexP_len]; omega
                · simp
              · simp
/-- The line, as far as its first signs. -/
def lineTo (k : Nat) (o : OpD) (j : Nat) : List UInt8 := formW k ++ Lib.joinTail [32] (((formS k).take j).map fun s => fieldL o s.toNat)
theorem joinT_snoc (r : List (List UInt8)) (x : List UInt8) : Lib.joinTail [32] (r ++ [x]) = Lib.joinTail [32] r ++ ([32] ++ x) := by simp [Lib.joinTail]
theorem lineTo_snoc {k j : Nat} (o : OpD) (hj : j < (formS k).length) : lineTo k o (j + 1) = lineTo k o j ++ [32] ++ fieldL o (formS k)[j].toNat := by
  unfold lineTo
  rw [List.take_succ_eq_append_getElem hj, List.map_append, List.map_singleton, joinT_snoc]
  simp only [List.append_assoc]
theorem lineTo_len {k : Nat} (o : OpD) (hg : o.g.length ≤ 1000) (hi : o.i.length ≤ 1000) : ∀ j, j ≤ (formS k).length → (lineTo k o j).length ≤ 7 + j * 1001
  | 0, _ => by
    have : (formW k).length ≤ 7 := by
      match k with
      | 0 | 1 | 2 | 3 | 4 | 5 | 6 | 7 | 8 | 9 => simp [formW]
      | k + 10 => simp [formW]
    simp [lineTo, Lib.joinTail]; omega
  | j + 1, h => by
    have ih := lineTo_len (k := k) o hg hi j (by omega)
    have hf := field_len o (formS k)[j].toNat hg hi
    rw [lineTo_snoc o (by omega), List.length_append, List.length_append, List.length_singleton]
    omega
theorem lineTo_all {o : OpD} {k : Nat} (hk : o.k = (k : Int)) (h1 : 1 ≤ k) (h9 : k < 10) : lineTo k o (formS k).length = lineL o := by
  have e : o.k.toNat = k := by omega
  unfold lineTo lineL
  rw [if_pos (by omega), e, List.take_length, Lib.join_cons]
theorem parse_nil : (parseO []).2 = 3 := by decide +kernel
/-- The form of an operation, or none. -/
def formOf (o : OpD) : Nat := if 1 ≤ o.k ∧ o.k < 10 then o.k.toNat else 0
theorem formOf_lt (o : OpD) : formOf o < 10 := by unfold formOf; split <;> omega
theorem kinds_of (o : OpD) (w : World) : Calls Tryd.prog 28 #[.int .i64 o.k] w fun e w' => e = .returned (.tuple #[strc (formW (formOf o)), strc (formS (formOf o))]) ∧ Gr w w' := by
  unfold formOf
  by_cases h : 1 ≤ o.k ∧ o.k < 10
  · rw [if_pos h]
    have := kinds_any o.k.toNat w (by omega)
    rw [show ((o.k.toNat : Nat) : Int) = o.k by omega] at this
    exact this
  · rw [if_neg h]
    exact kinds_out o.k w (by omega)
def lineT (o : OpD) : List UInt8 := lineTo (formOf o) o (formS (formOf o)).length
theorem printO_eq (o : OpD) : printO o = if (parseO (lineT o)).2 = 0 ∧ sameO o (parseO (lineT o)).1 = true then (lineT o, 0) else ([], 2) := by
  unfold printO
  by_cases h : 1 ≤ o.k ∧ o.k < 10
  · have e : lineT o = lineL o := by
      unfold lineT formOf
      rw [if_pos h]
      exact lineTo_all (by omega) (by omega) (by omega)
    rw [e]
    by_cases h2 : (parseO (lineL o)).2 = 0 ∧ sameO o (parseO (lineL o)).1 = true
    · rw [if_pos ⟨h, h2⟩, if_pos h2]
    · rw [if_neg (fun h3 => h2 h3.2), if_neg h2]
  · have e : lineT o = [] := by
      unfold lineT formOf
      rw [if_neg h]
      rfl
    rw [e, if_neg (fun h3 => h h3.1), if_neg (fun h3 => by rw [parse_nil] at h3; exact absurd h3.1 (by decide))]
set_option maxRecDepth 100000 in
set_option maxHeartbeats 4000000 in
theorem refOpPrint_any (o : OpD) (A : Option Addr) (m c : Nat) (w : World) (ho : OpOk o) (hg : o.g.length ≤ 1000) (hi : o.i.length ≤ 1000) (hx : Bs w A m c o.x) :
    Calls Tryd.prog 9 #[opV o A m c] w fun e w' => e = .returned (.tuple #[strc (printO o).1, .int .i64 ((printO o).2 : Int)]) ∧ Gr w w' := by
  have HKO : Hid (∀ wr, Calls Tryd.prog 28 #[.int .i64 o.k] wr fun e w' => e = .returned (.tuple #[strc (formW (formOf o)), strc (formS (formOf o))]) ∧ Gr wr w') := fun wr => kinds_of o wr
  have HFL : Hid (∀ (s : UInt8) wr, s ∈ formS (formOf o) → Gr w wr → Calls Tryd.prog 29 #[opV o A m c, .int .u8 (s.toNat : Int)] wr fun e w' => e = .returned (strc (fieldL o s.toNat)) ∧ Gr wr w') := fun s wr hs g => refField_any o A m c s.toNat wr ho (hx.mono g) (signs_all _ s hs)
  have HLN : Hid (∀ j, j ≤ (formS (formOf o)).length → (lineTo (formOf o) o j).length ≤ 7 + j * 1001) := fun j h => lineTo_len o hg hi j h
  have HFN : Hid (∀ s, (fieldL o s).length ≤ 1000) := fun s => field_len o s hg hi
  have HSN : Hid (∀ j (hj : j < (formS (formOf o)).length), lineTo (formOf o) o (j + 1) = lineTo (formOf o) o j ++ [32] ++ fieldL o (formS (formOf o))[j].toNat) := fun j hj => lineTo_snoc o hj
  have HPP : Hid (∀ wr, Calls Tryd.prog 11 #[strc (lineT o)] wr (RetOp wr (parseO (lineT o)))) := fun wr => refOpParse_any _ wr (by
    have := lineTo_len o hg hi _ (Nat.le_refl (formS (formOf o)).length)
    have h4 := formS_len (formOf o)
    have h5 : (formS (formOf o)).length * 1001 ≤ 4 * 1001 := Nat.mul_le_mul_right _ h4
    show (lineTo _ _ _).length ≤ _
    omega)
  have HSM : Hid (∀ o2 A2 m2 c2 wr, Gr w wr → Bs wr A2 m2 c2 o2.x → Calls Tryd.prog 12 #[opV o A m c, opV o2 A2 m2 c2] wr fun e w' => e = .returned (.bool (sameO o o2)) ∧ Gr wr w') := fun o2 A2 m2 c2 wr g hb => refSame39_any o o2 A A2 m c m2 c2 wr (hx.mono g) hb
  obtain ⟨r, hr⟩ : ∃ r, r = printO o := ⟨_, rfl⟩
  rw [← hr]
  have HR : Hid (r = if (parseO (lineT o)).2 = 0 ∧ sameO o (parseO (lineT o)).1 = true then (lineT o, 0) else ([], 2)) := hr.trans (printO_eq o)
  have HLT : Hid (lineT o = lineTo (formOf o) o (formS (formOf o)).length) := rfl
  have hf4 := formS_len (formOf o)
  have hl0 : lineTo (formOf o) o 0 = formW (formOf o) := by simp [lineTo, Lib.joinTail]
  clear hr hx ho
  obtain ⟨x, hxx⟩ : ∃ x : ByteArray, x = ⟨(formW (formOf o)).toArray⟩ := ⟨_, rfl⟩
  obtain ⟨y, hy⟩ : ∃ y : ByteArray, y = ⟨(formS (formOf o)).toArray⟩ := ⟨_, rfl⟩
  have hys : y.size = (formS (formOf o)).length := by rw [hy]; exact size_of' _
  have HAT := Lib.hid (at_of (formS (formOf o)) y hy)
  have hxs : strc (formW (formOf o)) = .string x := by rw [hxx]; rfl
  have hyS : strc (formS (formOf o)) = .string y := by rw [hy]; rfl
  have hx0 : x = ⟨(lineTo (formOf o) o 0).toArray⟩ := by rw [hl0]; exact hxx
  rw [hxs, hyS] at HKO
  clear hxx hy hxs hyS hl0
  generalize formS (formOf o) = ss at *
  generalize lineTo (formOf o) o = lt at *
  have HC8 : Hid (∀ wq, Gr (w.alloc (.cells (opC o A m c) 24)) wq → ∀ (i : Nat) (v : Value), (opC o A m c).toList[i]? = some v → wq.cell? ⟨w.heap.size, i, none⟩ = some v) := fun wq g i v h => (((Blk.new w 24 (opC o A m c)).mono g).cell i).trans h
  have G0 : Hid (Gr w (w.alloc (.cells (opC o A m c) 24))) := Gr.alloc w _
  have HX0 := Lib.hid hx0; clear hx0
  obtain ⟨wX, hwX⟩ : ∃ wX, wX = w.alloc (.cells (opC o A m c) 24) := ⟨_, rfl⟩
  rw [← hwX] at HC8 G0
  have HWX := Lib.hid hwX; clear hwX
  unfold opV at *
  have k0 : (w.alloc (.cells (opC o A m c) 24)).cell? ⟨w.heap.size, 0, none⟩ = some (.int .i64 o.k) := by rw [(Blk.new w 24 (opC o A m c)).cell]; rfl
  go_enter Tryd.func9, Tryd.ntmps9
  go_wp2_with fail
  rw [← HWX.out]
  refine (HKO.out _).mono ?_
  rintro e w1 ⟨rfl, g1⟩
  have G1 := Lib.hid g1; clear g1 k0
  go_wp2_with fail
  go_loopw [4, 6] (fun v i wr => ∃ (j : Nat) (t : ByteArray), j ≤ y.size ∧ i = .int .i64 j ∧ v = .string t ∧ t = ⟨(lt j).toArray⟩ ∧ Gr wX wr) (fun _ i _ => y.size - (intOf i).toNat)
  case atStart => exact ⟨0, x, by omega, rfl, rfl, HX0.out, G1.out⟩
  case round =>
    obtain ⟨j, t, hj, rfl, rfl, ht, g⟩ := hrel
    have HT := Lib.hid ht; have G := Lib.hid g; clear ht g
    have htz : t.size = (lt j).length := by rw [HT.out]; exact size_of' _
    have htl := HLN.out j (by omega)
    by_cases hlt : j < y.size
    · have hja : j < ss.length := by omega
      have hasc : ((y[j]'hlt).toNat : Int) = (ss[j].toNat : Int) := by
        rw [HAT.out j hlt]; unfold bAt
        simp [List.getD_eq_getElem?_getD, List.getElem?_eq_getElem hja]
      have HFC := Lib.hid (fun wr g => HFL.out ss[j] wr (List.getElem_mem hja) g)
      have HSJ := Lib.hid (HSN.out j hja)
      have hfl := HFN.out ss[j].toNat
      generalize ss[j].toNat = sg at *
      obtain ⟨fx, hfx⟩ : ∃ fx : ByteArray, fx = ⟨(fieldL o sg).toArray⟩ := ⟨_, rfl⟩
      have hfz : fx.size = (fieldL o sg).length := by rw [hfx]; exact size_of' _
      rw [show strc (fieldL o sg) = .string fx by rw [hfx]; rfl] at HFC
      have HX2 : Hid (t ++ ⟨#[32]⟩ ++ fx = ⟨(lt (j + 1)).toArray⟩) := by
        show _ = _
        rw [HSJ.out, HT.out, hfx]
        apply ByteArray.ext
        simp
      have l1 : ¬ 9223372036854775807 < t.size + 1 := by
        have : j * 1001 ≤ 4 * 1001 := Nat.mul_le_mul_right _ (by omega)
        omega
      have l2 : ¬ 9223372036854775807 < t.size + 1 + fx.size := by
        have : j * 1001 ≤ 4 * 1001 := Nat.mul_le_mul_right _ (by omega)
        omega
      have hjs : (j : Int) < (ss.length : Int) := by omega
      have hjs2 : (j : Int) < (y.size : Int) := by omega
      clear hfx hfz htz htl hfl HT
      go_wp2_with fail
      refine wp_region_quiet (C := fun w' => Below (wr).heap.size (wr) w') (by kernel_rfl) (by kernel_rfl) (Below.refl _ _).drew ?_
      simp only
      repeat (first
        | go_big_quiet_skip
        | (go_big_quiet_want
           apply Exists.intro
           refine ⟨fun wq hq => ?_, ?_⟩
           · (have d0 := HC8.out wq ((Gr.trans G.out hq)) 0 _ rfl; have d1 := HC8.out wq ((Gr.trans G.out hq)) 1 _ rfl; have d2 := HC8.out wq ((Gr.trans G.out hq)) 2 _ rfl; have d3 := HC8.out wq ((Gr.trans G.out hq)) 3 _ rfl; have d4 := HC8.out wq ((Gr.trans G.out hq)) 4 _ rfl; have d5 := HC8.out wq ((Gr.trans G.out hq)) 5 _ rfl; have d6 := HC8.out wq ((Gr.trans G.out hq)) 6 _ rfl; have d7 := HC8.out wq ((Gr.trans G.out hq)) 7 _ rfl
              go_simp
              first
                | done
                | exact rfl
                | (with_reducible exact ⟨rfl, rfl⟩)
                | (go_at_call 29; exact (HFC.out wq (G0.out.trans (G.out.trans hq))).mono fun e w2 ⟨he, hb⟩ => ⟨he, below_both hq hb⟩))
           go_simp
           go_big_quiet_on))
      refine wpQuiet_nil ?_
      intro wq hq
      have GQ : Hid (Gr wX wq) := G.out.trans hq
      clear hq l1 l2
      go_wp2_with fail
      refine ⟨⟨j + 1, _, by omega, by first | trivial | go_num, rfl, HX2.out, GQ.out⟩, ?_⟩
      show y.size - ((j : Int) + 1).toNat < y.size - (j : Int).toNat
      omega
    · have hje : j = ss.length := by omega
      subst hje
      have hlt2 : strc (lineT o) = .string t := by rw [HLT.out, HT.out]; rfl
      rw [hlt2] at HPP
      generalize lineT o = tx at *
      have HTX := Lib.hid hlt2
      clear hlt2
      generalize parseO tx = p at *
      go_wp2_with fail
      refine (HPP.out _).mono ?_
      rintro e w2 ⟨A2, m2, c2, rfl, sx, g2⟩
      have G2 := Lib.hid (G.out.trans g2); have SX := Lib.hid sx
      clear g2 sx
      unfold opV at *
      obtain ⟨p1, p2⟩ := p
      have HYB := setRow_heap (w2.alloc (.cells #[.int .i64 0, .string ⟨#[]⟩, .string ⟨#[]⟩, .int .i64 0, .int .i64 0, .int .i64 0, .int .i64 0, .slice none 0 0] 24)) w2.heap.size _ (opC p1 A2 m2 c2) _ _ (heap_alloc_new w2 _)
      have GS0 : Gr w2 ((w2.alloc (.cells #[.int .i64 0, .string ⟨#[]⟩, .string ⟨#[]⟩, .int .i64 0, .int .i64 0, .int .i64 0, .int .i64 0, .slice none 0 0] 24)).setRow w2.heap.size (opC p1 A2 m2 c2)) := below_row39 ((Below.refl _ _).alloc (Nat.le_refl _) _) (Nat.le_refl _) _
      have SX2 := Lib.hid (Sl.gr SX.out GS0)
      have GS := Lib.hid (G2.out.trans GS0)
      have HY8 : Hid (∀ (i : Nat) (v : Value), (opC p1 A2 m2 c2).toList[i]? = some v → ((w2.alloc (.cells #[.int .i64 0, .string ⟨#[]⟩, .string ⟨#[]⟩, .int .i64 0, .int .i64 0, .int .i64 0, .int .i64 0, .slice none 0 0] 24)).setRow w2.heap.size (opC p1 A2 m2 c2)).cell? ⟨w2.heap.size, i, none⟩ = some v) := fun i v h => ((show Blk ((w2.alloc (.cells #[.int .i64 0, .string ⟨#[]⟩, .string ⟨#[]⟩, .int .i64 0, .int .i64 0, .int .i64 0, .int .i64 0, .slice none 0 0] 24)).setRow w2.heap.size (opC p1 A2 m2 c2)) w2.heap.size 24 (opC p1 A2 m2 c2).toList from HYB).cell i).trans h
      clear GS0 HYB
      have GWS : Hid (Gr w ((w2.alloc (.cells #[.int .i64 0, .string ⟨#[]⟩, .string ⟨#[]⟩, .int .i64 0, .int .i64 0, .int .i64 0, .int .i64 0, .slice none 0 0] 24)).setRow w2.heap.size (opC p1 A2 m2 c2))) := G0.out.trans GS.out
      by_cases hp2 : p2 = 0
      · subst hp2
        have HSC := Lib.hid (HSM.out p1 A2 m2 c2 _ GWS.out SX2.out)
        cases hso : sameO o p1 with
        | true =>
          have HF : Hid (r = (tx, 0)) := by show _ = _; rw [HR.out, if_pos ⟨rfl, hso⟩]
          rw [hso] at HSC
          clear hso HR
          have d0 := HC8.out _ GS.out 0 _ rfl
          have d1 := HC8.out _ GS.out 1 _ rfl
          have d2 := HC8.out _ GS.out 2 _ rfl
          have d3 := HC8.out _ GS.out 3 _ rfl
          have d4 := HC8.out _ GS.out 4 _ rfl
          have d5 := HC8.out _ GS.out 5 _ rfl
          have d6 := HC8.out _ GS.out 6 _ rfl
          have d7 := HC8.out _ GS.out 7 _ rfl
          have e0 := HY8.out 0 _ rfl
          have e1 := HY8.out 1 _ rfl
          have e2 := HY8.out 2 _ rfl
          have e3 := HY8.out 3 _ rfl
          have e4 := HY8.out 4 _ rfl
          have e5 := HY8.out 5 _ rfl
          have e6 := HY8.out 6 _ rfl
          have e7 := HY8.out 7 _ rfl
          go_wp2_with (refine wpList_store_row rfl 24 (.tmp 7) (.tmp 32) rfl w2.heap.size (opC p1 A2 m2 c2) rfl rfl 24 #[.int .i64 0, .string ⟨#[]⟩, .string ⟨#[]⟩, .int .i64 0, .int .i64 0, .int .i64 0, .int .i64 0, .slice none 0 0] (by exact heap_alloc_new w2 _) opSize rfl (opOne _ _ _ _) ?_)
          refine HSC.out.mono ?_
          rintro e w5 ⟨rfl, g5⟩
          have G5 := Lib.hid (GWS.out.trans g5); clear g5
          go_wp2_with fail
          go_ret2
          rw [HF.out]
          exact ⟨by rw [HTX.out]; rfl, G5.out⟩
        | false =>
          have HF : Hid (r = ([], 2)) := by show _ = _; rw [HR.out, if_neg (fun h => by rw [hso] at h; cases h.2)]
          rw [hso] at HSC
          clear hso HR
          have d0 := HC8.out _ GS.out 0 _ rfl
          have d1 := HC8.out _ GS.out 1 _ rfl
          have d2 := HC8.out _ GS.out 2 _ rfl
          have d3 := HC8.out _ GS.out 3 _ rfl
          have d4 := HC8.out _ GS.out 4 _ rfl
          have d5 := HC8.out _ GS.out 5 _ rfl
          have d6 := HC8.out _ GS.out 6 _ rfl
          have d7 := HC8.out _ GS.out 7 _ rfl
          have e0 := HY8.out 0 _ rfl
          have e1 := HY8.out 1 _ rfl
          have e2 := HY8.out 2 _ rfl
          have e3 := HY8.out 3 _ rfl
          have e4 := HY8.out 4 _ rfl
          have e5 := HY8.out 5 _ rfl
          have e6 := HY8.out 6 _ rfl
          have e7 := HY8.out 7 _ rfl
          go_wp2_with (refine wpList_store_row rfl 24 (.tmp 7) (.tmp 32) rfl w2.heap.size (opC p1 A2 m2 c2) rfl rfl 24 #[.int .i64 0, .string ⟨#[]⟩, .string ⟨#[]⟩, .int .i64 0, .int .i64 0, .int .i64 0, .int .i64 0, .slice none 0 0] (by exact heap_alloc_new w2 _) opSize rfl (opOne _ _ _ _) ?_)
          refine HSC.out.mono ?_
          rintro e w5 ⟨rfl, g5⟩
          have G5 := Lib.hid (GWS.out.trans g5); clear g5
          go_wp2_with fail
          go_ret2
          rw [HF.out]
          exact ⟨rfl, G5.out⟩
      · have t2 : ((p2 : Int) != 0) = true := by rw [bne_iff_ne]; omega
        have HF : Hid (r = ([], 2)) := by show _ = _; rw [HR.out, if_neg (fun h => hp2 h.1)]
        go_wp2_with (refine wpList_store_row rfl 24 (.tmp 7) (.tmp 32) rfl w2.heap.size (opC p1 A2 m2 c2) rfl rfl 24 #[.int .i64 0, .string ⟨#[]⟩, .string ⟨#[]⟩, .int .i64 0, .int .i64 0, .int .i64 0, .int .i64 0, .slice none 0 0] (by exact heap_alloc_new w2 _) opSize rfl (opOne _ _ _ _) ?_)
        go_ret2
        rw [HF.out]
        exact ⟨rfl, GWS.out⟩
end Go.Proofs.YtadenlhnfkccaaaDoor
