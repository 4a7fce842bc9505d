/- Own texts of this claim, one behind the other. No condition. -/
import Derived.Test.YtadenlhnfkccaaaGreatDoorObPkI
import Derived.Outline

/- Operations as lines: the reference's Print. No condition. -/
namespace Go.Proofs.YtadenlhnfkccaaaGreatDoor
open Go.RowKit
set_option linter.unusedVariables false
set_option linter.unusedSimpArgs false
theorem kinds_out (n : Int) (w : World) (h : n < 1 ∨ 9 < n) : Calls Tryz.prog 62 #[.int .i64 n] w fun e w' => e = .returned (.tuple #[strc [], strc []]) ∧ Gr w w' := by
  by_cases h1 : n < 1
  · have t1 : decide (n < 1) = true := decide_eq_true h1
    go_enter Tryz.func62, Tryz.ntmps62
    go_wp2_with fail
    go_ret2
    exact ⟨rfl, (Gr.alloc w _).trans (Gr.alloc _ _)⟩
  · have t1 : decide (n < 1) = false := decide_eq_false h1
    have t2 : decide (9 < n) = true := decide_eq_true (by omega)
    go_enter Tryz.func62, Tryz.ntmps62
    go_wp2_with fail
    go_ret2
    exact ⟨rfl, (Gr.alloc w _).trans (Gr.alloc _ _)⟩
theorem printL_len {n : Int} (h : n ≤ 1073741824) : (printL n).length ≤ 10 := by
  by_cases h0 : n < 0
  · unfold printL; rw [if_pos h0]; simp
  · obtain ⟨u, rfl⟩ := Int.eq_ofNat_of_zero_le (show 0 ≤ n by omega)
    have e : printL (u : Int) = Lib.decDigits u := by unfold printL; rw [if_neg (by omega)]; rfl
    rw [e]
    obtain ⟨_, i2, i3, _, i5, _⟩ := dec_back u
    rcases Nat.lt_or_ge 10 (Lib.decDigits u).length with h | h
    · by_cases hu : 1 ≤ u
      · have h2 := i5 hu
        have h3 : 10 ^ 10 ≤ 10 ^ ((Lib.decDigits u).length - 1) := Nat.pow_le_pow_right (by decide) (by omega)
        have h4 : (10 : Nat) ^ 10 = 10000000000 := by decide
        omega
      · rw [dec_small u (by omega)] at h; simp at h
    · exact h
theorem countT_len (n : Int) : (countT n).length ≤ 10 := by
  unfold countT
  split
  · simp
  · exact printL_len (by omega)
theorem partT_len (l : List UInt8) : (partT l).length ≤ l.length := by unfold partT; split <;> simp
theorem sayT_len (n : Int) : (sayT n).length ≤ 10 := by
  unfold sayT
  split
  · decide
  · split
    · decide
    · split
      · decide
      · simp
theorem field_len (o : OpD) (s : Nat) (hg : o.g.length ≤ 1000) (hi : o.i.length ≤ 1000) : (fieldL o s).length ≤ 1000 := by
  have := partT_len o.g
  have := partT_len o.i
  have := countT_len o.e
  have := countT_len o.s
  have := countT_len o.n
  have := sayT_len o.v
  unfold fieldL
  split
  · omega
  · split
    · omega
    · split
      · omega
      · split
        · omega
        · split
          · omega
          · split
            · omega
            · split
              · split
                · rw [hexP_len]; omega
                · simp
              · simp
/-- The line, as far as its first signs. -/
def lineTo (k : Nat) (o : OpD) (j : Nat) : List UInt8 := formW k ++ Lib.joinTail [32] (((formS k).take j).map fun s => fieldL o s.toNat)
theorem joinT_snoc (r : List (List UInt8)) (x : List UInt8) : Lib.joinTail [32] (r ++ [x]) = Lib.joinTail [32] r ++ ([32] ++ x) := by simp [Lib.joinTail]
theorem lineTo_snoc {k j : Nat} (o : OpD) (hj : j < (formS k).length) : lineTo k o (j + 1) = lineTo k o j ++ [32] ++ fieldL o (formS k)[j].toNat := by
  unfold lineTo
  rw [List.take_succ_eq_append_getElem hj, List.map_append, List.map_singleton, joinT_snoc]
  simp only [List.append_assoc]
theorem lineTo_len {k : Nat} (o : OpD) (hg : o.g.length ≤ 1000) (hi : o.i.length ≤ 1000) : ∀ j, j ≤ (formS k).length → (lineTo k o j).length ≤ 7 + j * 1001
  | 0, _ => by
    have : (formW k).length ≤ 7 := by
      match k with
      | 0 | 1 | 2 | 3 | 4 | 5 | 6 | 7 | 8 | 9 => simp [formW]
      | k + 10 => simp [formW]
    simp [lineTo, Lib.joinTail]; omega
  | j + 1, h => by
    have ih := lineTo_len (k := k) o hg hi j (by omega)
    have hf := field_len o (formS k)[j].toNat hg hi
    rw [lineTo_snoc o (by omega), List.length_append, List.length_append, List.length_singleton]
    omega
theorem lineTo_all {o : OpD} {k : Nat} (hk : o.k = (k : Int)) (h1 : 1 ≤ k) (h9 : k < 10) : lineTo k o (formS k).length = lineL o := by
  have e : o.k.toNat = k := by omega
  unfold lineTo lineL
  rw [if_pos (by omega), e, List.take_length, Lib.join_cons]
theorem parse_nil : (parseO []).2 = 3 := by decide +kernel
/-- The form of an operation, or none. -/
def formOf (o : OpD) : Nat := if 1 ≤ o.k ∧ o.k < 10 then o.k.toNat else 0
theorem formOf_lt (o : OpD) : formOf o < 10 := by unfold formOf; split <;> omega
theorem kinds_of (o : OpD) (w : World) : Calls Tryz.prog 62 #[.int .i64 o.k] w fun e w' => e = .returned (.tuple #[strc (formW (formOf o)), strc (formS (formOf o))]) ∧ Gr w w' := by
  unfold formOf
  by_cases h : 1 ≤ o.k ∧ o.k < 10
  · rw [if_pos h]
    have := kinds_any o.k.toNat w (by omega)
    rw [show ((o.k.toNat : Nat) : Int) = o.k by omega] at this
    exact this
  · rw [if_neg h]
    exact kinds_out o.k w (by omega)
def lineT (o : OpD) : List UInt8 := lineTo (formOf o) o (formS (formOf o)).length
theorem printO_eq (o : OpD) : printO o = if (parseO (lineT o)).2 = 0 ∧ sameO o (parseO (lineT o)).1 = true then (lineT o, 0) else ([], 2) := by
  unfold printO
  by_cases h : 1 ≤ o.k ∧ o.k < 10
  · have e : lineT o = lineL o := by
      unfold lineT formOf
      rw [if_pos h]
      exact lineTo_all (by omega) (by omega) (by omega)
    rw [e]
    by_cases h2 : (parseO (lineL o)).2 = 0 ∧ sameO o (parseO (lineL o)).1 = true
    · rw [if_pos ⟨h, h2⟩, if_pos h2]
    · rw [if_neg (fun h3 => h2 h3.2), if_neg h2]
  · have e : lineT o = [] := by
      unfold lineT formOf
      rw [if_neg h]
      rfl
    rw [e, if_neg (fun h3 => h h3.1), if_neg (fun h3 => by rw [parse_nil] at h3; exact absurd h3.1 (by decide))]
set_option maxRecDepth 100000 in
set_option maxHeartbeats 4000000 in
theorem refOpPrint_any (o : OpD) (A : Option Addr) (m c : Nat) (w : World) (ho : OpOk o) (hg : o.g.length ≤ 1000) (hi : o.i.length ≤ 1000) (hx : Bs w A m c o.x) :
    Calls Tryz.prog 49 #[opV o A m c] w fun e w' => e = .returned (.tuple #[strc (printO o).1, .int .i64 ((printO o).2 : Int)]) ∧ Gr w w' := by
  have HKO : Hid (∀ wr, Calls Tryz.prog 62 #[.int .i64 o.k] wr fun e w' => e = .returned (.tuple #[strc (formW (formOf o)), strc (formS (formOf o))]) ∧ Gr wr w') := fun wr => kinds_of o wr
  have HFL : Hid (∀ (s : UInt8) wr, s ∈ formS (formOf o) → Gr w wr → Calls Tryz.prog 76 #[opV o A m c, .int .u8 (s.toNat : Int)] wr fun e w' => e = .returned (strc (fieldL o s.toNat)) ∧ Gr wr w') := fun s wr hs g => refField_any o A m c s.toNat wr ho (hx.mono g) (signs_all _ s hs)
  have HLN : Hid (∀ j, j ≤ (formS (formOf o)).length → (lineTo (formOf o) o j).length ≤ 7 + j * 1001) := fun j h => lineTo_len o hg hi j h
  have HFN : Hid (∀ s, (fieldL o s).length ≤ 1000) := fun s => field_len o s hg hi
  have HSN : Hid (∀ j (hj : j < (formS (formOf o)).length), lineTo (formOf o) o (j + 1) = lineTo (formOf o) o j ++ [32] ++ fieldL o (formS (formOf o))[j].toNat) := fun j hj => lineTo_snoc o hj
  have HPP : Hid (∀ wr, Calls Tryz.prog 32 #[strc (lineT o)] wr (RetOp wr (parseO (lineT o)))) := fun wr => refOpParse_any _ wr (by
    have := lineTo_len o hg hi _ (Nat.le_refl (formS (formOf o)).length)
    have h4 := formS_len (formOf o)
    have h5 : (formS (formOf o)).length * 1001 ≤ 4 * 1001 := Nat.mul_le_mul_right _ h4
    show (lineTo _ _ _).length ≤ _
    omega)
  have HSM : Hid (∀ o2 A2 m2 c2 wr, Gr w wr → Bs wr A2 m2 c2 o2.x → Calls Tryz.prog 38 #[opV o A m c, opV o2 A2 m2 c2] wr fun e w' => e = .returned (.bool (sameO o o2)) ∧ Gr wr w') := fun o2 A2 m2 c2 wr g hb => refSame39_any o o2 A A2 m c m2 c2 wr (hx.mono g) hb
  obtain ⟨r, hr⟩ : ∃ r, r = printO o := ⟨_, rfl⟩
  rw [← hr]
  have HR : Hid (r = if (parseO (lineT o)).2 = 0 ∧ sameO o (parseO (lineT o)).1 = true then (lineT o, 0) else ([], 2)) := hr.trans (printO_eq o)
  have HLT : Hid (lineT o = lineTo (formOf o) o (formS (formOf o)).length) := rfl
  have hf4 := formS_len (formOf o)
  have hl0 : lineTo (formOf o) o 0 = formW (formOf o) := by simp [lineTo, Lib.joinTail]
  clear hr hx ho
  obtain ⟨x, hxx⟩ : ∃ x : ByteArray, x = ⟨(formW (formOf o)).toArray⟩ := ⟨_, rfl⟩
  obtain ⟨y, hy⟩ : ∃ y : ByteArray, y = ⟨(formS (formOf o)).toArray⟩ := ⟨_, rfl⟩
  have hys : y.size = (formS (formOf o)).length := by rw [hy]; exact size_of' _
  have HAT := Lib.hid (at_of (formS (formOf o)) y hy)
  have hxs : strc (formW (formOf o)) = .string x := by rw [hxx]; rfl
  have hyS : strc (formS (formOf o)) = .string y := by rw [hy]; rfl
  have hx0 : x = ⟨(lineTo (formOf o) o 0).toArray⟩ := by rw [hl0]; exact hxx
  rw [hxs, hyS] at HKO
  clear hxx hy hxs hyS hl0
  generalize formS (formOf o) = ss at *
  generalize lineTo (formOf o) o = lt at *
  have HC8 : Hid (∀ wq, Gr (w.alloc (.cells (opC o A m c) 24)) wq → ∀ (i : Nat) (v : Value), (opC o A m c).toList[i]? = some v → wq.cell? ⟨w.heap.size, i, none⟩ = some v) := fun wq g i v h => (((Blk.new w 24 (opC o A m c)).mono g).cell i).trans h
  have G0 : Hid (Gr w (w.alloc (.cells (opC o A m c) 24))) := Gr.alloc w _
  have HX0 := Lib.hid hx0; clear hx0
  obtain ⟨wX, hwX⟩ : ∃ wX, wX = w.alloc (.cells (opC o A m c) 24) := ⟨_, rfl⟩
  rw [← hwX] at HC8 G0
  have HWX := Lib.hid hwX; clear hwX
  unfold opV at *
  have k0 : (w.alloc (.cells (opC o A m c) 24)).cell? ⟨w.heap.size, 0, none⟩ = some (.int .i64 o.k) := by rw [(Blk.new w 24 (opC o A m c)).cell]; rfl
  go_enter Tryz.func49, Tryz.ntmps49
  go_wp2_with fail
  rw [← HWX.out]
  refine (HKO.out _).mono ?_
  rintro e w1 ⟨rfl, g1⟩
  have G1 := Lib.hid g1; clear g1 k0
  go_wp2_with fail
  go_loopw [4, 6] (fun v i wr => ∃ (j : Nat) (t : ByteArray), j ≤ y.size ∧ i = .int .i64 j ∧ v = .string t ∧ t = ⟨(lt j).toArray⟩ ∧ Gr wX wr) (fun _ i _ => y.size - (intOf i).toNat)
  case atStart => exact ⟨0, x, by omega, rfl, rfl, HX0.out, G1.out⟩
  case round =>
    obtain ⟨j, t, hj, rfl, rfl, ht, g⟩ := hrel
    have HT := Lib.hid ht; have G := Lib.hid g; clear ht g
    have htz : t.size = (lt j).length := by rw [HT.out]; exact size_of' _
    have htl := HLN.out j (by omega)
    by_cases hlt : j < y.size
    · have hja : j < ss.length := by omega
      have hasc : ((y[j]'hlt).toNat : Int) = (ss[j].toNat : Int) := by
        rw [HAT.out j hlt]; unfold bAt
        simp [List.getD_eq_getElem?_getD, List.getElem?_eq_getElem hja]
      have HFC := Lib.hid (fun wr g => HFL.out ss[j] wr (List.getElem_mem hja) g)
      have HSJ := Lib.hid (HSN.out j hja)
      have hfl := HFN.out ss[j].toNat
      generalize ss[j].toNat = sg at *
      obtain ⟨fx, hfx⟩ : ∃ fx : ByteArray, fx = ⟨(fieldL o sg).toArray⟩ := ⟨_, rfl⟩
      have hfz : fx.size = (fieldL o sg).length := by rw [hfx]; exact size_of' _
      rw [show strc (fieldL o sg) = .string fx by rw [hfx]; rfl] at HFC
      have HX2 : Hid (t ++ ⟨#[32]⟩ ++ fx = ⟨(lt (j + 1)).toArray⟩) := by
        show _ = _
        rw [HSJ.out, HT.out, hfx]
        apply ByteArray.ext
        simp
      have l1 : ¬ 9223372036854775807 < t.size + 1 := by
        have : j * 1001 ≤ 4 * 1001 := Nat.mul_le_mul_right _ (by omega)
        omega
      have l2 : ¬ 9223372036854775807 < t.size + 1 + fx.size := by
        have : j * 1001 ≤ 4 * 1001 := Nat.mul_le_mul_right _ (by omega)
        omega
      have hjs : (j : Int) < (ss.length : Int) := by omega
      have hjs2 : (j : Int) < (y.size : Int) := by omega
      clear hfx hfz htz htl hfl HT
      go_wp2_with fail
      refine wp_region_quiet (C := fun w' => Below (wr).heap.size (wr) w') (by kernel_rfl) (by kernel_rfl) (Below.refl _ _).drew ?_
      simp only
      repeat (first
        | go_big_quiet_skip
        | (go_big_quiet_want
           apply Exists.intro
           refine ⟨fun wq hq => ?_, ?_⟩
           · (have d0 := HC8.out wq ((Gr.trans G.out hq)) 0 _ rfl; have d1 := HC8.out wq ((Gr.trans G.out hq)) 1 _ rfl; have d2 := HC8.out wq ((Gr.trans G.out hq)) 2 _ rfl; have d3 := HC8.out wq ((Gr.trans G.out hq)) 3 _ rfl; have d4 := HC8.out wq ((Gr.trans G.out hq)) 4 _ rfl; have d5 := HC8.out wq ((Gr.trans G.out hq)) 5 _ rfl; have d6 := HC8.out wq ((Gr.trans G.out hq)) 6 _ rfl; have d7 := HC8.out wq ((Gr.trans G.out hq)) 7 _ rfl
              go_simp
              first
                | done
                | exact rfl
                | (with_reducible exact ⟨rfl, rfl⟩)
                | (go_at_call 76; exact (HFC.out wq (G0.out.trans (G.out.trans hq))).mono fun e w2 ⟨he, hb⟩ => ⟨he, below_both hq hb⟩))
           go_simp
           go_big_quiet_on))
      refine wpQuiet_nil ?_
      intro wq hq
      have GQ : Hid (Gr wX wq) := G.out.trans hq
      clear hq l1 l2
      go_wp2_with fail
      refine ⟨⟨j + 1, _, by omega, by first | trivial | go_num, rfl, HX2.out, GQ.out⟩, ?_⟩
      show y.size - ((j : Int) + 1).toNat < y.size - (j : Int).toNat
      omega
    · have hje : j = ss.length := by omega
      subst hje
      have hlt2 : strc (lineT o) = .string t := by rw [HLT.out, HT.out]; rfl
      rw [hlt2] at HPP
      generalize lineT o = tx at *
      have HTX := Lib.hid hlt2
      clear hlt2
      generalize parseO tx = p at *
      go_wp2_with fail
      refine (HPP.out _).mono ?_
      rintro e w2 ⟨A2, m2, c2, rfl, sx, g2⟩
      have G2 := Lib.hid (G.out.trans g2); have SX := Lib.hid sx
      clear g2 sx
      unfold opV at *
      obtain ⟨p1, p2⟩ := p
      have HYB := setRow_heap (w2.alloc (.cells #[.int .i64 0, .string ⟨#[]⟩, .string ⟨#[]⟩, .int .i64 0, .int .i64 0, .int .i64 0, .int .i64 0, .slice none 0 0] 24)) w2.heap.size _ (opC p1 A2 m2 c2) _ _ (heap_alloc_new w2 _)
      have GS0 : Gr w2 ((w2.alloc (.cells #[.int .i64 0, .string ⟨#[]⟩, .string ⟨#[]⟩, .int .i64 0, .int .i64 0, .int .i64 0, .int .i64 0, .slice none 0 0] 24)).setRow w2.heap.size (opC p1 A2 m2 c2)) := below_row39 ((Below.refl _ _).alloc (Nat.le_refl _) _) (Nat.le_refl _) _
      have SX2 := Lib.hid (Sl.gr SX.out GS0)
      have GS := Lib.hid (G2.out.trans GS0)
      have HY8 : Hid (∀ (i : Nat) (v : Value), (opC p1 A2 m2 c2).toList[i]? = some v → ((w2.alloc (.cells #[.int .i64 0, .string ⟨#[]⟩, .string ⟨#[]⟩, .int .i64 0, .int .i64 0, .int .i64 0, .int .i64 0, .slice none 0 0] 24)).setRow w2.heap.size (opC p1 A2 m2 c2)).cell? ⟨w2.heap.size, i, none⟩ = some v) := fun i v h => ((show Blk ((w2.alloc (.cells #[.int .i64 0, .string ⟨#[]⟩, .string ⟨#[]⟩, .int .i64 0, .int .i64 0, .int .i64 0, .int .i64 0, .slice none 0 0] 24)).setRow w2.heap.size (opC p1 A2 m2 c2)) w2.heap.size 24 (opC p1 A2 m2 c2).toList from HYB).cell i).trans h
      clear GS0 HYB
      have GWS : Hid (Gr w ((w2.alloc (.cells #[.int .i64 0, .string ⟨#[]⟩, .string ⟨#[]⟩, .int .i64 0, .int .i64 0, .int .i64 0, .int .i64 0, .slice none 0 0] 24)).setRow w2.heap.size (opC p1 A2 m2 c2))) := G0.out.trans GS.out
      by_cases hp2 : p2 = 0
      · subst hp2
        have HSC := Lib.hid (HSM.out p1 A2 m2 c2 _ GWS.out SX2.out)
        cases hso : sameO o p1 with
        | true =>
          have HF : Hid (r = (tx, 0)) := by show _ = _; rw [HR.out, if_pos ⟨rfl, hso⟩]
          rw [hso] at HSC
          clear hso HR
          have d0 := HC8.out _ GS.out 0 _ rfl
          have d1 := HC8.out _ GS.out 1 _ rfl
          have d2 := HC8.out _ GS.out 2 _ rfl
          have d3 := HC8.out _ GS.out 3 _ rfl
          have d4 := HC8.out _ GS.out 4 _ rfl
          have d5 := HC8.out _ GS.out 5 _ rfl
          have d6 := HC8.out _ GS.out 6 _ rfl
          have d7 := HC8.out _ GS.out 7 _ rfl
          have e0 := HY8.out 0 _ rfl
          have e1 := HY8.out 1 _ rfl
          have e2 := HY8.out 2 _ rfl
          have e3 := HY8.out 3 _ rfl
          have e4 := HY8.out 4 _ rfl
          have e5 := HY8.out 5 _ rfl
          have e6 := HY8.out 6 _ rfl
          have e7 := HY8.out 7 _ rfl
          go_wp2_with (refine wpList_store_row rfl 24 (.tmp 7) (.tmp 32) rfl w2.heap.size (opC p1 A2 m2 c2) rfl rfl 24 #[.int .i64 0, .string ⟨#[]⟩, .string ⟨#[]⟩, .int .i64 0, .int .i64 0, .int .i64 0, .int .i64 0, .slice none 0 0] (by exact heap_alloc_new w2 _) opSize rfl (opOne _ _ _ _) ?_)
          refine HSC.out.mono ?_
          rintro e w5 ⟨rfl, g5⟩
          have G5 := Lib.hid (GWS.out.trans g5); clear g5
          go_wp2_with fail
          go_ret2
          rw [HF.out]
          exact ⟨by rw [HTX.out]; rfl, G5.out⟩
        | false =>
          have HF : Hid (r = ([], 2)) := by show _ = _; rw [HR.out, if_neg (fun h => by rw [hso] at h; cases h.2)]
          rw [hso] at HSC
          clear hso HR
          have d0 := HC8.out _ GS.out 0 _ rfl
          have d1 := HC8.out _ GS.out 1 _ rfl
          have d2 := HC8.out _ GS.out 2 _ rfl
          have d3 := HC8.out _ GS.out 3 _ rfl
          have d4 := HC8.out _ GS.out 4 _ rfl
          have d5 := HC8.out _ GS.out 5 _ rfl
          have d6 := HC8.out _ GS.out 6 _ rfl
          have d7 := HC8.out _ GS.out 7 _ rfl
          have e0 := HY8.out 0 _ rfl
          have e1 := HY8.out 1 _ rfl
          have e2 := HY8.out 2 _ rfl
          have e3 := HY8.out 3 _ rfl
          have e4 := HY8.out 4 _ rfl
          have e5 := HY8.out 5 _ rfl
          have e6 := HY8.out 6 _ rfl
          have e7 := HY8.out 7 _ rfl
          go_wp2_with (refine wpList_store_row rfl 24 (.tmp 7) (.tmp 32) rfl w2.heap.size (opC p1 A2 m2 c2) rfl rfl 24 #[.int .i64 0, .string ⟨#[]⟩, .string ⟨#[]⟩, .int .i64 0, .int .i64 0, .int .i64 0, .int .i64 0, .slice none 0 0] (by exact heap_alloc_new w2 _) opSize rfl (opOne _ _ _ _) ?_)
          refine HSC.out.mono ?_
          rintro e w5 ⟨rfl, g5⟩
          have G5 := Lib.hid (GWS.out.trans g5); clear g5
          go_wp2_with fail
          go_ret2
          rw [HF.out]
          exact ⟨rfl, G5.out⟩
      · have t2 : ((p2 : Int) != 0) = true := by rw [bne_iff_ne]; omega
        have HF : Hid (r = ([], 2)) := by show _ = _; rw [HR.out, if_neg (fun h => hp2 h.1)]
        go_wp2_with (refine wpList_store_row rfl 24 (.tmp 7) (.tmp 32) rfl w2.heap.size (opC p1 A2 m2 c2) rfl rfl 24 #[.int .i64 0, .string ⟨#[]⟩, .string ⟨#[]⟩, .int .i64 0, .int .i64 0, .int .i64 0, .int .i64 0, .slice none 0 0] (by exact heap_alloc_new w2 _) opSize rfl (opOne _ _ _ _) ?_)
        go_ret2
        rw [HF.out]
        exact ⟨rfl, GWS.out⟩
end Go.Proofs.YtadenlhnfkccaaaGreatDoor

/- ObOqA, ObOqB: one text. No condition. -/
/- Operations as lines: Print, as the program says. No condition. -/
namespace Go.Proofs.YtadenlhnfkccaaaGreatDoor
open Go.RowKit
set_option linter.unusedVariables false
set_option linter.unusedSimpArgs false
theorem Own.not_iter {w0 w : World} {e : TypeId} {s n I p : Nat} {v : Value} {xs : List Value} {t : ByteArray} (h : Own w0 w e s v n xs) (hI : w.heap[I]? = some (.stringIter t p)) {b : Nat} (hb : v.ownBlock = some b) : b ≠ I := by
  rintro rfl
  obtain ⟨⟨_, h⟩, _⟩ := h
  rcases h with ⟨rfl, _⟩ | ⟨g, cap, cur, rfl, hg, hh, _⟩
  · cases hb
  · have : g = b := by simpa [Value.ownBlock] using hb
    subst this
    rw [hI] at hh
    cases hh
set_option maxRecDepth 100000 in
set_option maxHeartbeats 4000000 in
theorem opPrint_any (o : OpD) (A : Option Addr) (m c : Nat) (w : World) (ho : OpOk o) (hg : o.g.length ≤ 1000) (hi : o.i.length ≤ 1000) (hx : Bs w A m c o.x) (hT : Pow10 w) (hM : MLen w) :
    Calls Tryz.prog 46 #[opV o A m c] w fun e w' => e = .returned (.tuple #[strc (printO o).1, .int .i64 ((printO o).2 : Int)]) ∧ Gr w w' := by
  have HFO : Hid (∀ wr : World, Calls Tryz.prog 52 #[] wr fun e w' => e = .returned (.agg formCells) ∧ Gr wr w') := fun wr => forms_any wr
  have HO := Lib.hid formOne
  have HC8 : Hid (∀ wq, Gr (w.alloc (.cells (opC o A m c) 24)) wq → ∀ (i : Nat) (v : Value), (opC o A m c).toList[i]? = some v → wq.cell? ⟨w.heap.size, i, none⟩ = some v) := fun wq g i v h => (((Blk.new w 24 (opC o A m c)).mono g).cell i).trans h
  have G0 : Hid (Gr w (w.alloc (.cells (opC o A m c) 24))) := Gr.alloc w _
  by_cases hk : 1 ≤ o.k ∧ o.k < 10
  · obtain ⟨K, hke⟩ : ∃ K : Nat, o.k = (K : Int) := ⟨o.k.toNat, by omega⟩
    have hK : K < 10 := by omega
    have hfo : formOf o = K := by unfold formOf; rw [if_pos hk]; omega
    have HFL : Hid (∀ (s : UInt8) wr, s ∈ formS K → Gr w wr → Calls Tryz.prog 71 #[opV o A m c, .int .i32 (s.toNat : Int)] wr fun e w' => e = .returned (strc (fieldL o s.toNat)) ∧ Gr wr w') := fun s wr hs g => field_any o A m c s.toNat wr ho (hx.mono g) (hT.mono g) (signs_all _ s hs)
    have HSM : Hid (∀ o2 A2 m2 c2 wr, Gr w wr → Bs wr A2 m2 c2 o2.x → Calls Tryz.prog 72 #[opV o A m c, opV o2 A2 m2 c2] wr fun e w' => e = .returned (.bool (sameO o o2)) ∧ Gr wr w') := fun o2 A2 m2 c2 wr g hb => same39_any o o2 A A2 m c m2 c2 wr (hx.mono g) hb
    have hlen : (lineT o).length ≤ 100000 := by
      have := lineTo_len o hg hi _ (Nat.le_refl (formS (formOf o)).length)
      have h4 := formS_len (formOf o)
      have h5 : (formS (formOf o)).length * 1001 ≤ 4 * 1001 := Nat.mul_le_mul_right _ h4
      show (lineTo _ _ _).length ≤ _
      omega
    have HPP : Hid (∀ wr, Gr w wr → Calls Tryz.prog 26 #[strc (lineT o)] wr (RetOp wr (parseO (lineT o)))) := fun wr g => opParse_any _ wr hlen (hM.mono g) (hT.mono g)
    obtain ⟨r, hr⟩ : ∃ r, r = printO o := ⟨_, rfl⟩
    rw [← hr]
    have HR : Hid (r = if (parseO (lineT o)).2 = 0 ∧ sameO o (parseO (lineT o)).1 = true then (lineT o, 0) else ([], 2)) := hr.trans (printO_eq o)
    have HLT : Hid (lineT o = Lib.join (formW K :: (formS K).map fun s => fieldL o s.toNat) [32]) := by
      show lineTo (formOf o) o (formS (formOf o)).length = _
      rw [hfo, Lib.join_cons]
      unfold lineTo
      rw [List.take_length]
    have hf4 := formS_len K
    have HSG := Lib.hid (signs_all K)
    clear hr hx ho hT hM
    obtain ⟨x, hxx⟩ : ∃ x : ByteArray, x = ⟨(formW K).toArray⟩ := ⟨_, rfl⟩
    obtain ⟨y, hy⟩ : ∃ y : ByteArray, y = ⟨(formS K).toArray⟩ := ⟨_, rfl⟩
    have hys : y.size = (formS K).length := by rw [hy]; exact size_of' _
    have HAT := Lib.hid (at_of (formS K) y hy)
    have hxs : strc (formW K) = .string x := by rw [hxx]; rfl
    have hyS : strc (formS K) = .string y := by rw [hy]; rfl
    have HX := Lib.hid hxx; have HYY := Lib.hid hy
    clear hxx hy
    unfold opV at *
    go_enter Tryz.func46, Tryz.ntmps46
    go_wp2_with fail
    refine (HFO.out _).mono ?_
    rintro e w2 ⟨rfl, g2⟩
    have G2 := Lib.hid g2; clear g2
    have G23 : Gr w2 ((w2.alloc (.cells #[.string ⟨#[]⟩, .string ⟨#[]⟩, .string ⟨#[]⟩, .string ⟨#[]⟩, .string ⟨#[]⟩, .string ⟨#[]⟩, .string ⟨#[]⟩, .string ⟨#[]⟩, .string ⟨#[]⟩, .string ⟨#[]⟩, .string ⟨#[]⟩, .string ⟨#[]⟩, .string ⟨#[]⟩, .string ⟨#[]⟩, .string ⟨#[]⟩, .string ⟨#[]⟩, .string ⟨#[]⟩, .string ⟨#[]⟩, .string ⟨#[]⟩, .string ⟨#[]⟩] 107)).setRow w2.heap.size formCells) := below_row39 ((Below.refl _ _).alloc (Nat.le_refl _) _) (Nat.le_refl _) _
    have BF : Blk ((w2.alloc (.cells #[.string ⟨#[]⟩, .string ⟨#[]⟩, .string ⟨#[]⟩, .string ⟨#[]⟩, .string ⟨#[]⟩, .string ⟨#[]⟩, .string ⟨#[]⟩, .string ⟨#[]⟩, .string ⟨#[]⟩, .string ⟨#[]⟩, .string ⟨#[]⟩, .string ⟨#[]⟩, .string ⟨#[]⟩, .string ⟨#[]⟩, .string ⟨#[]⟩, .string ⟨#[]⟩, .string ⟨#[]⟩, .string ⟨#[]⟩, .string ⟨#[]⟩, .string ⟨#[]⟩] 107)).setRow w2.heap.size formCells) w2.heap.size 107 formCells.toList := setRow_heap _ w2.heap.size _ _ _ _ (heap_alloc_new w2 _)
    have GS := Lib.hid (G2.out.trans G23)
    have GB : Gr ((w2.alloc (.cells #[.string ⟨#[]⟩, .string ⟨#[]⟩, .string ⟨#[]⟩, .string ⟨#[]⟩, .string ⟨#[]⟩, .string ⟨#[]⟩, .string ⟨#[]⟩, .string ⟨#[]⟩, .string ⟨#[]⟩, .string ⟨#[]⟩, .string ⟨#[]⟩, .string ⟨#[]⟩, .string ⟨#[]⟩, .string ⟨#[]⟩, .string ⟨#[]⟩, .string ⟨#[]⟩, .string ⟨#[]⟩, .string ⟨#[]⟩, .string ⟨#[]⟩, .string ⟨#[]⟩] 107)).setRow w2.heap.size formCells) (((w2.alloc (.cells #[.string ⟨#[]⟩, .string ⟨#[]⟩, .string ⟨#[]⟩, .string ⟨#[]⟩, .string ⟨#[]⟩, .string ⟨#[]⟩, .string ⟨#[]⟩, .string ⟨#[]⟩, .string ⟨#[]⟩, .string ⟨#[]⟩, .string ⟨#[]⟩, .string ⟨#[]⟩, .string ⟨#[]⟩, .string ⟨#[]⟩, .string ⟨#[]⟩, .string ⟨#[]⟩, .string ⟨#[]⟩, .string ⟨#[]⟩, .string ⟨#[]⟩, .string ⟨#[]⟩] 107)).setRow w2.heap.size formCells).alloc (.cells #[.string x] 9)) := Gr.alloc _ _
    have d0 : ((w2.alloc (.cells #[.string ⟨#[]⟩, .string ⟨#[]⟩, .string ⟨#[]⟩, .string ⟨#[]⟩, .string ⟨#[]⟩, .string ⟨#[]⟩, .string ⟨#[]⟩, .string ⟨#[]⟩, .string ⟨#[]⟩, .string ⟨#[]⟩, .string ⟨#[]⟩, .string ⟨#[]⟩, .string ⟨#[]⟩, .string ⟨#[]⟩, .string ⟨#[]⟩, .string ⟨#[]⟩, .string ⟨#[]⟩, .string ⟨#[]⟩, .string ⟨#[]⟩, .string ⟨#[]⟩] 107)).setRow w2.heap.size formCells).cell? ⟨w.heap.size, 0, none⟩ = some (.int .i64 (K : Int)) := (HC8.out _ GS.out 0 _ rfl).trans (by rw [hke])
    have cw : ((w2.alloc (.cells #[.string ⟨#[]⟩, .string ⟨#[]⟩, .string ⟨#[]⟩, .string ⟨#[]⟩, .string ⟨#[]⟩, .string ⟨#[]⟩, .string ⟨#[]⟩, .string ⟨#[]⟩, .string ⟨#[]⟩, .string ⟨#[]⟩, .string ⟨#[]⟩, .string ⟨#[]⟩, .string ⟨#[]⟩, .string ⟨#[]⟩, .string ⟨#[]⟩, .string ⟨#[]⟩, .string ⟨#[]⟩, .string ⟨#[]⟩, .string ⟨#[]⟩, .string ⟨#[]⟩] 107)).setRow w2.heap.size formCells).cell? ⟨w2.heap.size, K * 2, none⟩ = some (.string x) := by
      rw [BF.cell, Nat.mul_comm, formCells_w K hK, hxs]
    have d0' : (((w2.alloc (.cells #[.string ⟨#[]⟩, .string ⟨#[]⟩, .string ⟨#[]⟩, .string ⟨#[]⟩, .string ⟨#[]⟩, .string ⟨#[]⟩, .string ⟨#[]⟩, .string ⟨#[]⟩, .string ⟨#[]⟩, .string ⟨#[]⟩, .string ⟨#[]⟩, .string ⟨#[]⟩, .string ⟨#[]⟩, .string ⟨#[]⟩, .string ⟨#[]⟩, .string ⟨#[]⟩, .string ⟨#[]⟩, .string ⟨#[]⟩, .string ⟨#[]⟩, .string ⟨#[]⟩] 107)).setRow w2.heap.size formCells).alloc (.cells #[.string x] 9)).cell? ⟨w.heap.size, 0, none⟩ = some (.int .i64 (K : Int)) := (HC8.out _ (GS.out.trans GB) 0 _ rfl).trans (by rw [hke])
    have cs' : (((w2.alloc (.cells #[.string ⟨#[]⟩, .string ⟨#[]⟩, .string ⟨#[]⟩, .string ⟨#[]⟩, .string ⟨#[]⟩, .string ⟨#[]⟩, .string ⟨#[]⟩, .string ⟨#[]⟩, .string ⟨#[]⟩, .string ⟨#[]⟩, .string ⟨#[]⟩, .string ⟨#[]⟩, .string ⟨#[]⟩, .string ⟨#[]⟩, .string ⟨#[]⟩, .string ⟨#[]⟩, .string ⟨#[]⟩, .string ⟨#[]⟩, .string ⟨#[]⟩, .string ⟨#[]⟩] 107)).setRow w2.heap.size formCells).alloc (.cells #[.string x] 9)).cell? ⟨w2.heap.size, K * 2 + 1, none⟩ = some (.string y) := by
      rw [(BF.mono GB).cell, Nat.mul_comm, formCells_s K hK, hyS]
    have t1 : decide ((K : Int) < 1) = false := decide_eq_false (by omega)
    have t2 : decide ((K : Int) ≥ 10) = false := decide_eq_false (by omega)
    have hi10 : (K : Int) < 10 := by omega
    clear hk hke
    go_wp2_with (refine wpList_store_row rfl 107 (.tmp 4) (.tmp 11) rfl w2.heap.size formCells rfl rfl 107 (reps 20 (.string ⟨#[]⟩)).toArray (by exact heap_alloc_new w2 _) formSize rfl HO.out ?_)
    obtain ⟨w3, hw3⟩ : ∃ w3, w3 = ((w2.alloc (.cells #[.string ⟨#[]⟩, .string ⟨#[]⟩, .string ⟨#[]⟩, .string ⟨#[]⟩, .string ⟨#[]⟩, .string ⟨#[]⟩, .string ⟨#[]⟩, .string ⟨#[]⟩, .string ⟨#[]⟩, .string ⟨#[]⟩, .string ⟨#[]⟩, .string ⟨#[]⟩, .string ⟨#[]⟩, .string ⟨#[]⟩, .string ⟨#[]⟩, .string ⟨#[]⟩, .string ⟨#[]⟩, .string ⟨#[]⟩, .string ⟨#[]⟩, .string ⟨#[]⟩] 107)).setRow w2.heap.size formCells) := ⟨_, rfl⟩
    rw [← hw3] at GS ⊢
    have hs3 : w3.heap.size = w2.heap.size + 1 := by rw [hw3]; simp [World.setRow]
    clear d0 cw d0' cs' GB BF G23 hw3
    have O0 : Hid (Own w3 ((w3.alloc (.cells #[.string x] 9)).iter y 0) 9 1 (.slice (some ⟨w3.heap.size, 0, none⟩) 1 1) 1 [.string x]) := by
      have := (Blk.new w3 9 #[.string x]).own (w0 := w3) (size := 1) (n := 1) (Nat.le_refl _) (Gr.alloc w3 _) rfl (by decide)
      exact Own.alloc this (.stringIter y 0)
    rw [hs3] at O0
    have hIH : ((w3.alloc (.cells #[.string x] 9)).iter y 0).heap[w3.heap.size + 1]? = some (.stringIter y 0) := by
      have := heap_alloc_new (w3.alloc (.cells #[.string x] 9)) (.stringIter y 0)
      rw [show (w3.alloc (.cells #[.string x] 9)).heap.size = w3.heap.size + 1 by simp] at this
      exact this
    rw [hs3] at hIH
    have HIH := Lib.hid hIH; clear hIH
    have HS3 := Lib.hid hs3; clear hs3
    clear t1 t2 hi10
    go_loopw [5] (fun v wr => ∃ j : Nat, j ≤ y.size ∧ Own w3 wr 9 1 v (j + 1) ((formW K :: ((formS K).take j).map fun s => fieldL o s.toNat).map strc) ∧ wr.heap[w2.heap.size + 1 + 1]? = some (.stringIter y j)) (fun _ wr => y.size - wr.iterPos (w2.heap.size + 1 + 1))
    case atStart => exact ⟨0, by omega, by simpa [hxs] using O0.out, HIH.out⟩
    case round =>
      obtain ⟨j, hj, ow, hit⟩ := hrel
      have OW := Lib.hid ow; clear ow
      by_cases hlt : j < y.size
      · have hja : j < (formS K).length := by omega
        have hsg := HSG.out _ (List.getElem_mem hja)
        have hya : (y[j]'hlt).toNat = (formS K)[j].toNat := by
          have h1 := HAT.out j hlt
          unfold bAt at h1
          rw [show (formS K).getD j 0 = (formS K)[j] by simp [List.getD_eq_getElem?_getD, List.getElem?_eq_getElem hja]] at h1
          omega
        have hnx : ∀ ty, (Instr.next (.pointer (some ⟨w2.heap.size + 1 + 1, 0, none⟩)) true ty).run Tryz.prog wr = .ok (.tuple #[.bool true, .int .i64 j, .int .i32 ((formS K)[j].toNat : Int)]) (wr.iterAt (w2.heap.size + 1 + 1) y (j + 1)) := fun ty => by
          rw [Lib.run_next_ascii_at wr (w2.heap.size + 1 + 1) y j ty hit hlt (by rw [hya]; rcases hsg with h | h | h | h | h | h | h <;> omega), hya]
        have OI : Hid (Own w3 (wr.iterAt (w2.heap.size + 1 + 1) y (j + 1)) 9 1 u5 (j + 1) ((formW K :: ((formS K).take j).map fun s => fieldL o s.toNat).map strc)) := Own.tch OW.out (Tch.iterAt wr (w2.heap.size + 1 + 1) y (j + 1)) (fun b e => by have e : b = w2.heap.size + 1 + 1 := e; have := HS3.out; omega) (fun b e h => Own.not_iter OW.out hit e h)
        have hit2 := Lib.iterAt_heap wr (w2.heap.size + 1 + 1) y j (j + 1) hit
        have GXI : Gr (w.alloc (.cells (opC o A m c) 24)) (wr.iterAt (w2.heap.size + 1 + 1) y (j + 1)) := Below.trans GS.out (OI.out.below.mono GS.out.size)
        have d0 := HC8.out _ GXI 0 _ rfl
        have d1 := HC8.out _ GXI 1 _ rfl
        have d2 := HC8.out _ GXI 2 _ rfl
        have d3 := HC8.out _ GXI 3 _ rfl
        have d4 := HC8.out _ GXI 4 _ rfl
        have d5 := HC8.out _ GXI 5 _ rfl
        have d6 := HC8.out _ GXI 6 _ rfl
        have d7 := HC8.out _ GXI 7 _ rfl
        have GWI := Lib.hid (G0.out.trans GXI)
        have HFC := Lib.hid (HFL.out (formS K)[j] _ (List.getElem_mem hja) GWI.out)
        have hst : Hid ((formW K :: ((formS K).take (j + 1)).map fun s => fieldL o s.toNat).map strc = (formW K :: ((formS K).take j).map fun s => fieldL o s.toNat).map strc ++ [strc (fieldL o (formS K)[j].toNat)]) := by
          show _ = _
          rw [List.take_succ_eq_append_getElem hja, List.map_append, ← List.cons_append, List.map_append]
          rfl
        have HI2 := Lib.hid hit2; have HI1 := Lib.hid hit
        clear hit hit2 hya hsg GXI
        generalize (formS K)[j].toNat = sg at *
        obtain ⟨fx, hfx⟩ : ∃ fx : ByteArray, strc (fieldL o sg) = .string fx := ⟨_, rfl⟩
        rw [hfx] at HFC hst
        clear hfx
        go_wp2_with fail
        refine HFC.out.mono ?_
        rintro e w6 ⟨rfl, g6⟩
        have O6 := Lib.hid (OI.out.mono g6)
        have HI6 := Lib.hid ((g6.block _ (Array.getElem?_eq_some_iff.1 HI2.out).1).trans HI2.out)
        clear d0 d1 d2 d3 d4 d5 d6 d7 g6
        go_wp2_with (at_builtin; refine wpList_pushG rfl (.tmp 35) (.tmp 39) 68 rfl tWords rfl O6.out #[.string fx] rfl rfl (by intro u hu; simp at hu; subst hu; rfl) (by omega) ?_; intro v1 wn o1 kp)
        have hI7 : wn.heap[w2.heap.size + 1 + 1]? = some (.stringIter y (j + 1)) := by
          have h1 : (w6.alloc (.cells #[.string fx] 9)).heap[w2.heap.size + 1 + 1]? = some (.stringIter y (j + 1)) := by
            exact ((Gr.alloc w6 (.cells #[.string fx] 9)).block _ (Array.getElem?_eq_some_iff.1 HI6.out).1).trans HI6.out
          rw [kp.1 _ (Array.getElem?_eq_some_iff.1 h1).1 (fun e => Own.not_iter O6.out HI6.out e rfl)]
          exact h1
        have OE : Hid (Own w3 wn 9 1 v1 (j + 1 + 1) ((formW K :: ((formS K).take (j + 1)).map fun s => fieldL o s.toNat).map strc)) := by
          show Own _ _ _ _ _ _ _
          rw [hst.out]
          exact o1
        refine ⟨⟨j + 1, by omega, OE.out, hI7⟩, ?_⟩
        rw [iterPos_of hI7, iterPos_of HI1.out]
        omega
      · have hje : j = (formS K).length := by omega
        subst hje
        have hnx : ∀ ty, (Instr.next (.pointer (some ⟨w2.heap.size + 1 + 1, 0, none⟩)) true ty).run Tryz.prog wr = .ok (.tuple #[.bool false]) wr := fun ty => Lib.run_next_end_at wr (w2.heap.size + 1 + 1) y _ ty hit hlt
        have OF : Hid (Own w3 wr 9 1 u5 ((formS K).length + 1) ((formW K :: (formS K).map fun s => fieldL o s.toNat).map strc)) := by
          show Own _ _ _ _ _ _ _
          have := OW.out
          rw [List.take_length] at this
          exact this
        have GX3 : Hid (Gr (w.alloc (.cells (opC o A m c) 24)) wr) := (Below.trans GS.out (OF.out.below.mono GS.out.size))
        obtain ⟨A5, c5, rfl, s5⟩ := OF.out.slice
        have hcap5 := s5.cap
        obtain ⟨tx, htx⟩ : ∃ tx : ByteArray, tx = ⟨(lineT o).toArray⟩ := ⟨_, rfl⟩
        have hjn : Hid (Calls Tryz.prog 48 #[.slice A5 ((formS K).length + 1) c5, .string ⟨#[32]⟩] wr fun e w' => e = .returned (.string tx) ∧ Gr wr w') := by
          have hlw : (formW K :: (formS K).map fun s => fieldL o s.toNat).length = (formS K).length + 1 := by simp
          obtain ⟨bk, ok, rfl, hcl⟩ := Ws.addr (ps := formW K :: (formS K).map fun s => fieldL o s.toNat) s5 (by omega)
          have hxs2 : ((formW K :: (formS K).map fun s => fieldL o s.toNat).map fun p => (⟨p.toArray⟩ : ByteArray)).map (·.data.toList) = (formW K :: (formS K).map fun s => fieldL o s.toNat) := by rw [List.map_map]; exact List.map_id'' (fun p => rfl) _
          have h := Tryz.strings_Join bk ok c5 ((formW K :: (formS K).map fun s => fieldL o s.toNat).map fun p => (⟨p.toArray⟩ : ByteArray)) ⟨#[32]⟩ wr (fun j x hx => by
            rw [List.getElem?_map] at hx
            obtain ⟨p, hp, rfl⟩ := Option.map_eq_some_iff.1 hx
            obtain ⟨hj, rfl⟩ := List.getElem?_eq_some_iff.1 hp
            exact hcl j hj) (World.block_lt_of_cell? wr _ (hcl 0 (by omega))) (by rw [List.length_map, hlw]; omega) (by rw [List.length_map, hlw]; exact hcap5) (by
              rw [hxs2]
              have := hlen
              rw [HLT.out] at this
              show (Lib.join _ [32]).length ≤ _
              omega)
          rw [hxs2, List.length_map, hlw] at h
          rw [htx, HLT.out]
          exact h
        have HTX : Hid (strc (lineT o) = .string tx) := by rw [htx]; rfl
        rw [HTX.out] at HPP
        generalize lineT o = tl at *
        generalize parseO tl = p at *
        clear htx hit
        go_wp2_with fail
        refine hjn.out.mono ?_
        rintro e w4 ⟨rfl, g4⟩
        have GX4 := Lib.hid (GX3.out.trans g4); clear g4
        go_wp2_with fail
        refine (HPP.out _ (G0.out.trans GX4.out)).mono ?_
        rintro e w5 ⟨A2, m2, c2, rfl, sx, g5⟩
        have GX5 := Lib.hid (GX4.out.trans g5); have SX := Lib.hid sx
        clear g5 sx
        unfold opV at *
        obtain ⟨p1, p2⟩ := p
        have HYB := setRow_heap (w5.alloc (.cells #[.int .i64 0, .string ⟨#[]⟩, .string ⟨#[]⟩, .int .i64 0, .int .i64 0, .int .i64 0, .int .i64 0, .slice none 0 0] 24)) w5.heap.size _ (opC p1 A2 m2 c2) _ _ (heap_alloc_new w5 _)
        have GS0 : Gr w5 ((w5.alloc (.cells #[.int .i64 0, .string ⟨#[]⟩, .string ⟨#[]⟩, .int .i64 0, .int .i64 0, .int .i64 0, .int .i64 0, .slice none 0 0] 24)).setRow w5.heap.size (opC p1 A2 m2 c2)) := below_row39 ((Below.refl _ _).alloc (Nat.le_refl _) _) (Nat.le_refl _) _
        have SX2 := Lib.hid (Sl.gr SX.out GS0)
        have GXS := Lib.hid (GX5.out.trans GS0)
        have HY8 : Hid (∀ (i : Nat) (v : Value), (opC p1 A2 m2 c2).toList[i]? = some v → ((w5.alloc (.cells #[.int .i64 0, .string ⟨#[]⟩, .string ⟨#[]⟩, .int .i64 0, .int .i64 0, .int .i64 0, .int .i64 0, .slice none 0 0] 24)).setRow w5.heap.size (opC p1 A2 m2 c2)).cell? ⟨w5.heap.size, i, none⟩ = some v) := fun i v h => ((show Blk ((w5.alloc (.cells #[.int .i64 0, .string ⟨#[]⟩, .string ⟨#[]⟩, .int .i64 0, .int .i64 0, .int .i64 0, .int .i64 0, .slice none 0 0] 24)).setRow w5.heap.size (opC p1 A2 m2 c2)) w5.heap.size 24 (opC p1 A2 m2 c2).toList from HYB).cell i).trans h
        clear GS0 HYB
        have GWS : Hid (Gr w ((w5.alloc (.cells #[.int .i64 0, .string ⟨#[]⟩, .string ⟨#[]⟩, .int .i64 0, .int .i64 0, .int .i64 0, .int .i64 0, .slice none 0 0] 24)).setRow w5.heap.size (opC p1 A2 m2 c2))) := G0.out.trans GXS.out
        by_cases hp2 : p2 = 0
        · subst hp2
          have HSC := Lib.hid (HSM.out p1 A2 m2 c2 _ GWS.out SX2.out)
          cases hso : sameO o p1 with
          | true =>
            have HF : Hid (r = (tl, 0)) := by show _ = _; rw [HR.out, if_pos ⟨rfl, hso⟩]
            rw [hso] at HSC
            clear hso HR
            have d0 := HC8.out _ GXS.out 0 _ rfl
            have d1 := HC8.out _ GXS.out 1 _ rfl
            have d2 := HC8.out _ GXS.out 2 _ rfl
            have d3 := HC8.out _ GXS.out 3 _ rfl
            have d4 := HC8.out _ GXS.out 4 _ rfl
            have d5 := HC8.out _ GXS.out 5 _ rfl
            have d6 := HC8.out _ GXS.out 6 _ rfl
            have d7 := HC8.out _ GXS.out 7 _ rfl
            have e0 := HY8.out 0 _ rfl
            have e1 := HY8.out 1 _ rfl
            have e2 := HY8.out 2 _ rfl
            have e3 := HY8.out 3 _ rfl
            have e4 := HY8.out 4 _ rfl
            have e5 := HY8.out 5 _ rfl
            have e6 := HY8.out 6 _ rfl
            have e7 := HY8.out 7 _ rfl
            go_wp2_with (refine wpList_store_row rfl 24 (.tmp 9) (.tmp 46) rfl w5.heap.size (opC p1 A2 m2 c2) rfl rfl 24 #[.int .i64 0, .string ⟨#[]⟩, .string ⟨#[]⟩, .int .i64 0, .int .i64 0, .int .i64 0, .int .i64 0, .slice none 0 0] (by exact heap_alloc_new w5 _) opSize rfl (opOne _ _ _ _) ?_)
            refine HSC.out.mono ?_
            rintro e w7 ⟨rfl, g7⟩
            have G7 := Lib.hid (GWS.out.trans g7); clear g7
            go_wp2_with fail
            go_ret2
            rw [HF.out]
            exact ⟨by rw [HTX.out]; rfl, G7.out⟩
          | false =>
            have HF : Hid (r = ([], 2)) := by show _ = _; rw [HR.out, if_neg (fun h => by rw [hso] at h; cases h.2)]
            rw [hso] at HSC
            clear hso HR
            have d0 := HC8.out _ GXS.out 0 _ rfl
            have d1 := HC8.out _ GXS.out 1 _ rfl
            have d2 := HC8.out _ GXS.out 2 _ rfl
            have d3 := HC8.out _ GXS.out 3 _ rfl
            have d4 := HC8.out _ GXS.out 4 _ rfl
            have d5 := HC8.out _ GXS.out 5 _ rfl
            have d6 := HC8.out _ GXS.out 6 _ rfl
            have d7 := HC8.out _ GXS.out 7 _ rfl
            have e0 := HY8.out 0 _ rfl
            have e1 := HY8.out 1 _ rfl
            have e2 := HY8.out 2 _ rfl
            have e3 := HY8.out 3 _ rfl
            have e4 := HY8.out 4 _ rfl
            have e5 := HY8.out 5 _ rfl
            have e6 := HY8.out 6 _ rfl
            have e7 := HY8.out 7 _ rfl
            go_wp2_with (refine wpList_store_row rfl 24 (.tmp 9) (.tmp 46) rfl w5.heap.size (opC p1 A2 m2 c2) rfl rfl 24 #[.int .i64 0, .string ⟨#[]⟩, .string ⟨#[]⟩, .int .i64 0, .int .i64 0, .int .i64 0, .int .i64 0, .slice none 0 0] (by exact heap_alloc_new w5 _) opSize rfl (opOne _ _ _ _) ?_)
            refine HSC.out.mono ?_
            rintro e w7 ⟨rfl, g7⟩
            have G7 := Lib.hid (GWS.out.trans g7); clear g7
            go_wp2_with fail
            go_ret2
            rw [HF.out]
            exact ⟨rfl, G7.out⟩
        · have t2 : ((p2 : Int) != 0) = true := by rw [bne_iff_ne]; omega
          have HF : Hid (r = ([], 2)) := by show _ = _; rw [HR.out, if_neg (fun h => hp2 h.1)]
          go_wp2_with (refine wpList_store_row rfl 24 (.tmp 9) (.tmp 46) rfl w5.heap.size (opC p1 A2 m2 c2) rfl rfl 24 #[.int .i64 0, .string ⟨#[]⟩, .string ⟨#[]⟩, .int .i64 0, .int .i64 0, .int .i64 0, .int .i64 0, .slice none 0 0] (by exact heap_alloc_new w5 _) opSize rfl (opOne _ _ _ _) ?_)
          go_ret2
          rw [HF.out]
          exact ⟨rfl, GWS.out⟩
  · have HP : Hid (printO o = ([], 2)) := by
      show _ = _
      unfold printO
      rw [if_neg (fun h => hk h.1)]
    rw [HP.out]
    clear HP hx ho hT hM
    unfold opV at *
    go_enter Tryz.func46, Tryz.ntmps46
    go_wp2_with fail
    refine (HFO.out _).mono ?_
    rintro e w2 ⟨rfl, g2⟩
    have G2 := Lib.hid g2; clear g2
    have G23 : Gr w2 ((w2.alloc (.cells (reps 20 (.string ⟨#[]⟩)).toArray 107)).setRow w2.heap.size formCells) := below_row39 ((Below.refl _ _).alloc (Nat.le_refl _) _) (Nat.le_refl _) _
    have GS := Lib.hid (G2.out.trans G23)
    clear G23
    have d0 : ((w2.alloc (.cells #[.string ⟨#[]⟩, .string ⟨#[]⟩, .string ⟨#[]⟩, .string ⟨#[]⟩, .string ⟨#[]⟩, .string ⟨#[]⟩, .string ⟨#[]⟩, .string ⟨#[]⟩, .string ⟨#[]⟩, .string ⟨#[]⟩, .string ⟨#[]⟩, .string ⟨#[]⟩, .string ⟨#[]⟩, .string ⟨#[]⟩, .string ⟨#[]⟩, .string ⟨#[]⟩, .string ⟨#[]⟩, .string ⟨#[]⟩, .string ⟨#[]⟩, .string ⟨#[]⟩] 107)).setRow w2.heap.size formCells).cell? ⟨w.heap.size, 0, none⟩ = some (.int .i64 o.k) := HC8.out _ GS.out 0 _ rfl
    by_cases h1 : o.k < 1
    · have t1 : decide (o.k < 1) = true := decide_eq_true h1
      go_wp2_with (refine wpList_store_row rfl 107 (.tmp 4) (.tmp 11) rfl w2.heap.size formCells rfl rfl 107 (reps 20 (.string ⟨#[]⟩)).toArray (by exact heap_alloc_new w2 _) formSize rfl HO.out ?_)
      go_ret2
      exact ⟨rfl, G0.out.trans GS.out⟩
    · have t1 : decide (o.k < 1) = false := decide_eq_false h1
      have t2 : decide (o.k ≥ 10) = true := decide_eq_true (by omega)
      go_wp2_with (refine wpList_store_row rfl 107 (.tmp 4) (.tmp 11) rfl w2.heap.size formCells rfl rfl 107 (reps 20 (.string ⟨#[]⟩)).toArray (by exact heap_alloc_new w2 _) formSize rfl HO.out ?_)
      go_ret2
      exact ⟨rfl, G0.out.trans GS.out⟩
end Go.Proofs.YtadenlhnfkccaaaGreatDoor
/- Operations as lines: words of faults, and whether operations are short. No condition. -/
namespace Go.Proofs.YtadenlhnfkccaaaGreatDoor
open Go.RowKit
set_option linter.unusedVariables false
set_option linter.unusedSimpArgs false
/-- The words of faults. -/
def wordL : Nat → List UInt8
  | 0 => [111, 107]
  | 1 => [98, 97, 100, 97, 114, 103]
  | 2 => [114, 97, 110, 103, 101]
  | 3 => [115, 121, 110, 116, 97, 120]
  | 4 => [102, 111, 114, 109]
  | 5 => [102, 117, 108, 108]
  | 6 => [98, 105, 103]
  | 7 => [109, 105, 115, 115, 105, 110, 103]
  | 8 => [101, 120, 105, 115, 116, 115]
  | 9 => [117, 115, 101, 100]
  | 10 => [119, 105, 110, 100, 111, 119]
  | 11 => [99, 111, 114, 114, 117, 112, 116]
  | 12 => [100, 111, 119, 110]
  | 13 => [108, 105, 109, 105, 116]
  | 14 => [115, 116, 97, 116, 101]
  | _ => []
def wordT (f : Int) : List UInt8 := if f < 0 then [] else wordL f.toNat
def wordCells : Array Value := #[.string ⟨#[111, 107]⟩, .string ⟨#[98, 97, 100, 97, 114, 103]⟩, .string ⟨#[114, 97, 110, 103, 101]⟩, .string ⟨#[115, 121, 110, 116, 97, 120]⟩, .string ⟨#[102, 111, 114, 109]⟩, .string ⟨#[102, 117, 108, 108]⟩, .string ⟨#[98, 105, 103]⟩, .string ⟨#[109, 105, 115, 115, 105, 110, 103]⟩, .string ⟨#[101, 120, 105, 115, 116, 115]⟩, .string ⟨#[117, 115, 101, 100]⟩, .string ⟨#[119, 105, 110, 100, 111, 119]⟩, .string ⟨#[99, 111, 114, 114, 117, 112, 116]⟩, .string ⟨#[100, 111, 119, 110]⟩, .string ⟨#[108, 105, 109, 105, 116]⟩, .string ⟨#[115, 116, 97, 116, 101]⟩]
theorem wordCells_at (k : Nat) (hk : k < 15) : wordCells.toList[k]? = some (strc (wordL k)) := by
  rcases show k = 0 ∨ k = 1 ∨ k = 2 ∨ k = 3 ∨ k = 4 ∨ k = 5 ∨ k = 6 ∨ k = 7 ∨ k = 8 ∨ k = 9 ∨ k = 10 ∨ k = 11 ∨ k = 12 ∨ k = 13 ∨ k = 14 by omega with rfl | rfl | rfl | rfl | rfl | rfl | rfl | rfl | rfl | rfl | rfl | rfl | rfl | rfl | rfl <;> rfl
theorem wordOne : wordCells.all (·.oneCell') = true := by
  rw [Array.all_eq_true']
  intro v hv
  have : v ∈ wordCells.toList := Array.mem_toList_iff.2 hv
  simp only [wordCells, List.mem_cons, List.not_mem_nil, or_false] at this
  rcases this with h | h | h | h | h | h | h | h | h | h | h | h | h | h | h <;> subst h <;> rfl
/-- Is an operation short? -/
def lightO (o : OpD) : Bool := decide (o.g.length ≤ 100) && decide (o.i.length ≤ 100) && decide (o.x.length ≤ 100)
set_option maxRecDepth 100000 in
set_option maxHeartbeats 1000000 in
theorem light37_one (o : OpD) (A : Option Addr) (m c b : Nat) (w : World) (hB : Blk w b 24 (opC o A m c).toList) (hx : Bs w A m c o.x) :
    Calls Tryz.prog 21 #[.slice (some ⟨b, 0, none⟩) 1 1] w fun e w' => e = .returned (.bool (lightO o)) ∧ Gr w w' := by
  have hml := hx.len
  obtain ⟨g, hg⟩ : ∃ g : ByteArray, g = ⟨o.g.toArray⟩ := ⟨_, rfl⟩
  obtain ⟨i, hi⟩ : ∃ i : ByteArray, i = ⟨o.i.toArray⟩ := ⟨_, rfl⟩
  have hgz : g.size = o.g.length := by rw [hg]; exact size_of' _
  have hiz : i.size = o.i.length := by rw [hi]; exact size_of' _
  have HC1 : Hid (w.cell? ⟨b, 1, none⟩ = some (.string g)) := by show _ = _; rw [hB.cell, hg]; rfl
  have HC2 : Hid (w.cell? ⟨b, 2, none⟩ = some (.string i)) := by show _ = _; rw [hB.cell, hi]; rfl
  have HC7 : Hid (w.cell? ⟨b, 7, none⟩ = some (.slice A m c)) := by show _ = _; rw [hB.cell]; rfl
  obtain ⟨r, hr⟩ : ∃ r, r = lightO o := ⟨_, rfl⟩
  rw [← hr]
  have HR : Hid (r = (decide (g.size ≤ 100) && decide (i.size ≤ 100) && decide (m ≤ 100))) := by
    show _ = _
    rw [hr, hgz, hiz, ← hml]; rfl
  clear hr hB hx hg hi hml hgz hiz
  go_enter Tryz.func21, Tryz.ntmps21
  go_wp2
  go_loopw [3] (fun v wr => ∃ k : Nat, k ≤ 1 ∧ v = .int .i64 k ∧ wr = w ∧ (k = 1 → r = true)) (fun v _ => 1 - (intOf v).toNat)
  case atStart => exact ⟨0, by omega, rfl, rfl, by omega⟩
  case round =>
    obtain ⟨k, hk, rfl, rfl, hdone⟩ := hrel
    by_cases hlt : k < 1
    · obtain rfl : k = 0 := by omega
      have c1 := HC1.out; have c2 := HC2.out; have c7 := HC7.out
      have t0 : decide (((0 : Nat) : Int) < 1) = true := by decide
      by_cases h1 : 100 < g.size
      · have t1 : decide ((100 : Int) < (g.size : Int)) = true := decide_eq_true (by omega)
        have HF : Hid (r = false) := by show _ = _; rw [HR.out, decide_eq_false (by omega)]; rfl
        go_wp2_with fail
        go_ret
        exact ⟨by rw [HF.out]; rfl, Gr.refl _⟩
      · have t1 : decide ((100 : Int) < (g.size : Int)) = false := decide_eq_false (by omega)
        by_cases h2 : 100 < i.size
        · have t2 : decide ((100 : Int) < (i.size : Int)) = true := decide_eq_true (by omega)
          have HF : Hid (r = false) := by show _ = _; rw [HR.out, decide_eq_true (by omega : g.size ≤ 100), decide_eq_false (by omega)]; rfl
          go_wp2_with fail
          go_ret
          exact ⟨by rw [HF.out]; rfl, Gr.refl _⟩
        · have t2 : decide ((100 : Int) < (i.size : Int)) = false := decide_eq_false (by omega)
          by_cases h3 : 100 < m
          · have t3 : decide ((100 : Int) < (m : Int)) = true := decide_eq_true (by omega)
            have HF : Hid (r = false) := by show _ = _; rw [HR.out, decide_eq_true (by omega : g.size ≤ 100), decide_eq_true (by omega : i.size ≤ 100), decide_eq_false (by omega)]; rfl
            go_wp2_with fail
            go_ret
            exact ⟨by rw [HF.out]; rfl, Gr.refl _⟩
          · have t3 : decide ((100 : Int) < (m : Int)) = false := decide_eq_false (by omega)
            have HF : Hid (r = true) := by show _ = _; rw [HR.out, decide_eq_true (by omega : g.size ≤ 100), decide_eq_true (by omega : i.size ≤ 100), decide_eq_true (by omega : m ≤ 100)]; rfl
            go_wp2_with fail
            refine ⟨⟨1, by omega, by first | trivial | rfl, by first | trivial | rfl, fun _ => HF.out⟩, ?_⟩
            show 1 - (1 : Int).toNat < 1 - (0 : Int).toNat
            omega
    · obtain rfl : k = 1 := by omega
      have t0 : decide (((1 : Nat) : Int) < 1) = false := by decide
      have HF : Hid (r = true) := hdone rfl
      clear hdone
      go_wp2_with fail
      go_ret
      exact ⟨by rw [HF.out]; rfl, Gr.refl _⟩
end Go.Proofs.YtadenlhnfkccaaaGreatDoor

/- Operations as lines, in plain Lean: answers told and read, and the ways back. No condition. -/
namespace Go.Proofs.YtadenlhnfkccaaaGreatDoor
open Go.RowKit
set_option linter.unusedVariables false
set_option linter.unusedSimpArgs false
/-- What an answer has. -/
structure AnD where
  f : Int
  b : List UInt8
  n : List Int
  t : List UInt8
def tellW (a : AnD) : List (List UInt8) := wordT a.f :: a.n.map countT
def tellA (a : AnD) : List (List UInt8) := tellW a ++ (if a.b = [] then [] else [35 :: hexP a.b]) ++ (if a.t = [] then [] else [61 :: a.t])
def tellL (a : AnD) : List UInt8 := if a.f ≠ 0 then wordT a.f else if ([] ∈ tellW a) ∨ (a.t ≠ [] ∧ partT a.t = []) then [] else Lib.join (tellA a) [32]
def anC (a : AnD) (A : Option Addr) (m c : Nat) (B : Option Addr) (p q : Nat) : Array Value := #[.int .i64 a.f, .slice A m c, .slice B p q, strc a.t]
/-- Which fault a word tells; 0: none. -/
def faultN (w : List UInt8) : Nat := ((List.range 15).find? fun k => wordL k == w).getD 15
def faultT (w : List UInt8) : Int := if faultN w = 15 then 0 else (faultN w : Int)
def noAn : AnD := ⟨0, [], [], []⟩
def trimE : List UInt8 → List UInt8
  | 61 :: t => t
  | x => x
/-- A word is read into an answer. -/
def eatA (a : AnD) (x : List UInt8) : AnD :=
  if parseF x 1073741824 = 0 then { a with n := a.n ++ [parseN x 1073741824] }
  else if x.head? = some 35 then { a with b := (hexR x.tail).1 }
  else { a with t := trimE x }
def gotA (l : List UInt8) : AnD := (cutL 32 l).tail.foldl eatA ⟨faultT ((cutL 32 l).headD []), [], [], []⟩
def readA (l : List UInt8) : AnD × Nat := if l ≠ [] ∧ tellL (gotA l) = l then (gotA l, 0) else (noAn, 3)
/-! ### cutting and joining -/
theorem cut_app (c : UInt8) : ∀ (p l : List UInt8), (∀ b ∈ p, b ≠ c) → cutL c (p ++ c :: l) = p :: cutL c l
  | [], l, _ => by
    show (if c = c then [] :: cutL c l else consC c (cutL c l)) = _
    rw [if_pos rfl]
  | b :: p, l, h => by
    show (if b = c then [] :: cutL c (p ++ c :: l) else consC b (cutL c (p ++ c :: l))) = _
    rw [if_neg (h b List.mem_cons_self), cut_app c p l (fun x hx => h x (List.mem_cons_of_mem _ hx))]
    rfl
theorem cut_join (c : UInt8) : ∀ (r : List (List UInt8)) (p : List UInt8), (∀ q ∈ p :: r, ∀ b ∈ q, b ≠ c) → cutL c (Lib.join (p :: r) [c]) = p :: r
  | [], p, h => by
    rw [Lib.join_one]
    exact cut_none c p (h p List.mem_cons_self)
  | q :: r, p, h => by
    have e : Lib.join (p :: q :: r) [c] = p ++ c :: Lib.join (q :: r) [c] := by
      rw [Lib.join_cons, Lib.join_cons]
      simp [Lib.joinTail]
    rw [e, cut_app c p _ (h p List.mem_cons_self), cut_join c r q (fun x hx => h x (List.mem_cons_of_mem _ hx))]
theorem join_consC (c b : UInt8) : ∀ (ps : List (List UInt8)), ps ≠ [] → Lib.join (consC b ps) [c] = b :: Lib.join ps [c]
  | [], h => absurd rfl h
  | p :: ps, _ => by
    show Lib.join ((b :: p) :: ps) [c] = _
    rw [Lib.join_cons, Lib.join_cons]
    rfl
theorem join_cut (c : UInt8) : ∀ l : List UInt8, Lib.join (cutL c l) [c] = l
  | [] => by show Lib.join [[]] [c] = []; rw [Lib.join_one]
  | b :: t => by
    show Lib.join (if b = c then [] :: cutL c t else consC b (cutL c t)) [c] = b :: t
    by_cases hb : b = c
    · rw [if_pos hb]
      subst hb
      have ih := join_cut b t
      cases hp : cutL b t with
      | nil => exact absurd hp (cut_ne b t)
      | cons p ps =>
        rw [hp] at ih
        rw [Lib.join_cons] at ih ⊢
        have e : Lib.joinTail [b] (p :: ps) = [b] ++ p ++ Lib.joinTail [b] ps := by simp [Lib.joinTail]
        rw [e, ← ih]
        simp
    · rw [if_neg hb, join_consC c b _ (cut_ne c t), join_cut c t]
/-! ### digits back -/
theorem val_one (c : UInt8) : valL [c] = c.toNat - 48 := by simp [valL]
theorem isDig_ge {c : UInt8} (h : isDig c = true) : 48 ≤ c.toNat ∧ c.toNat ≤ 57 := by
  unfold isDig at h
  simp at h
  omega
theorem dec_val : ∀ (n : Nat) (l : List UInt8), l.length = n + 1 → l.all isDig = true → (n = 0 ∨ bAt l 0 ≠ 48) → Lib.decDigits (valL l) = l ∧ (bAt l 0 ≠ 48 → 1 ≤ valL l)
  | 0, l, hl, ha, _ => by
    match l, hl with
    | [c], _ =>
      have hc := isDig_ge (by simpa using ha : isDig c = true)
      rw [val_one, dec_small _ (by omega)]
      refine ⟨?_, fun h => ?_⟩
      · congr 1
        apply UInt8.toNat_inj.1
        rw [dig_nat _ (by omega)]
        omega
      · have : bAt [c] 0 = (c.toNat : Int) := rfl
        omega
  | n + 1, l, hl, ha, h0 => by
    obtain ⟨l', c, rfl⟩ : ∃ l' c, l = l' ++ [c] := by
      rcases List.eq_nil_or_concat l with h | ⟨l', c, h⟩
      · rw [h] at hl; simp at hl
      · exact ⟨l', c, by simpa using h⟩
    have hl' : l'.length = n + 1 := by simpa using hl
    rw [List.all_append] at ha
    simp only [Bool.and_eq_true] at ha
    have hc := isDig_ge (by simpa using ha.2 : isDig c = true)
    have hb : bAt (l' ++ [c]) 0 = bAt l' 0 := by
      unfold bAt
      rw [List.getD_eq_getElem?_getD, List.getD_eq_getElem?_getD, List.getElem?_append_left (by omega)]
    have h1 : bAt l' 0 ≠ 48 := by
      rcases h0 with h | h
      · omega
      · rw [hb] at h; exact h
    obtain ⟨i1, i2⟩ := dec_val n l' hl' ha.1 (.inr h1)
    have i3 := i2 h1
    rw [valL_snoc, dec_big _ (by omega)]
    refine ⟨?_, fun _ => by omega⟩
    have e1 : (valL l' * 10 + (c.toNat - 48)) / 10 = valL l' := by omega
    have e2 : (valL l' * 10 + (c.toNat - 48)) % 10 = c.toNat - 48 := by omega
    rw [e1, e2, i1, dec_small _ (by omega)]
    congr 2
    apply UInt8.toNat_inj.1
    rw [dig_nat _ (by omega)]
    omega
/-- What is read is printed as it was. -/
theorem print_parse {l : List UInt8} {m : Int} (h : parseF l m = 0) : badL l = false ∧ (valL l : Int) ≤ m ∧ parseN l m = (valL l : Int) ∧ printL (valL l : Int) = l := by
  unfold parseF at h
  unfold parseN
  cases hb : badL l with
  | true => rw [hb] at h; simp at h
  | false =>
    rw [hb] at h
    simp only [Bool.false_eq_true, if_false] at h ⊢
    by_cases hm : m < (valL l : Int)
    · rw [if_pos hm] at h; omega
    · rw [if_neg hm]
      refine ⟨trivial, by omega, rfl, ?_⟩
      unfold badL at hb
      simp only [Bool.not_eq_false', Bool.and_eq_true, Bool.or_eq_true, decide_eq_true_eq, bne_iff_ne] at hb
      obtain ⟨⟨⟨h1, h2⟩, h3⟩, h4⟩ := hb
      obtain ⟨n, hn⟩ : ∃ n, l.length = n + 1 := ⟨l.length - 1, by omega⟩
      unfold printL
      rw [if_neg (by omega)]
      exact (dec_val n l hn h4 (by
        rcases h3 with h | h
        · left; omega
        · right; exact h)).1
theorem count_parse {l : List UInt8} (h : parseF l 1073741824 = 0) : countT (parseN l 1073741824) = l := by
  obtain ⟨_, h2, h3, h4⟩ := print_parse h
  unfold countT
  rw [h3, if_neg (by omega), h4]
theorem parse_count {n : Int} (h : countT n ≠ []) : parseF (countT n) 1073741824 = 0 ∧ parseN (countT n) 1073741824 = n ∧ (∀ b ∈ countT n, b ≠ 32) := by
  unfold countT at *
  by_cases h1 : 1073741824 < n
  · rw [if_pos h1] at h; exact absurd rfl h
  rw [if_neg h1] at h ⊢
  by_cases h0 : n < 0
  · unfold printL at h; rw [if_pos h0] at h; exact absurd rfl h
  obtain ⟨u, rfl⟩ := Int.eq_ofNat_of_zero_le (by omega : 0 ≤ n)
  have e : printL (u : Int) = Lib.decDigits u := by unfold printL; rw [if_neg (by omega)]; rfl
  have hp := (parse_print (u : Int) (by omega) (by omega)).2
  have hv := (dec_back u).1
  have hd := (dec_back u).2.1
  rw [e] at hp ⊢
  have hbad : badL (Lib.decDigits u) = false := by
    cases hb : badL (Lib.decDigits u) with
    | false => rfl
    | true => unfold parseF at hp; rw [hb] at hp; simp at hp
  unfold parseF parseN
  rw [hbad, hv]
  refine ⟨by simp; omega, by simp; omega, fun b hb e => ?_⟩
  subst e
  have := List.all_eq_true.1 hd _ hb
  revert this
  decide
/-! ### hex back -/
theorem hexPV (b : UInt8) : UInt8.ofNat (hexV (hexD (b.toNat / 16)) * 16 + hexV (hexD (b.toNat % 16))) = b := by
  have := b.toNat_lt
  rw [hexV_hexD (by omega), hexV_hexD (by omega)]
  apply UInt8.toNat_inj.1
  rw [UInt8.toNat_ofNat_of_lt' (by show _ < 256; omega)]
  omega
theorem hexP_cons (b : UInt8) (t : List UInt8) : hexP (b :: t) = hexD (b.toNat / 16) :: hexD (b.toNat % 16) :: hexP t := rfl
theorem hexG_P : ∀ l, hexG (hexP l) = l
  | [] => rfl
  | b :: t => by
    rw [hexP_cons]
    show UInt8.ofNat _ :: hexG (hexP t) = _
    rw [hexPV, hexG_P t]
theorem hexOk_P : ∀ l, hexOk (hexP l) = true
  | [] => rfl
  | b :: t => by
    have := b.toNat_lt
    have ih := hexOk_P t
    rw [hexP_cons]
    unfold hexOk at ih ⊢
    rw [List.all_cons, List.all_cons, ih, hexV_hexD (by omega), hexV_hexD (by omega), decide_eq_true (by omega), decide_eq_true (by omega)]
    rfl
theorem hexR_P (l : List UInt8) : (hexR (hexP l)).1 = l := by
  unfold hexR
  rw [if_neg (by rw [hexOk_P]; decide), if_neg (by rw [hexP_len]; omega)]
  exact hexG_P l
theorem hexP_noblank (l : List UInt8) : ∀ b ∈ hexP l, b ≠ 32 := by
  intro b hb e
  subst e
  have := hexOk_P l
  unfold hexOk at this
  have := List.all_eq_true.1 this _ hb
  revert this
  decide
/-! ### parts -/
theorem runes_noblank : ∀ l : List UInt8, runesN l ≠ none → ∀ b ∈ l, b ≠ 32
  | [], _, b, hb => by simp at hb
  | [x], h, b, hb => by
    simp only [List.mem_singleton] at hb
    subst hb
    rintro rfl
    exact h (by decide)
  | x :: y :: l, h, b, hb => by
    rw [runesN] at h
    by_cases hx : smallA x = true
    · rw [if_pos hx] at h
      rcases List.mem_cons.1 hb with rfl | hb
      · rintro rfl; revert hx; decide
      · exact runes_noblank (y :: l) (fun e => h (by rw [e]; rfl)) b hb
    · rw [if_neg hx] at h
      by_cases hc : x = 195 ∧ smallC y = true
      · rw [if_pos hc] at h
        rcases List.mem_cons.1 hb with rfl | hb
        · rw [hc.1]; decide
        · rcases List.mem_cons.1 hb with rfl | hb
          · rintro rfl; have := hc.2; revert this; decide
          · exact runes_noblank l (fun e => h (by rw [e]; rfl)) b hb
      · rw [if_neg hc] at h; exact absurd rfl h
theorem part_noblank {l : List UInt8} (h : partT l ≠ []) : ∀ b ∈ l, b ≠ 32 := by
  unfold partT at h
  by_cases hp : partL l = true
  · refine runes_noblank l fun e => ?_
    unfold partL at hp
    rw [e] at hp
    cases hp
  · rw [if_neg hp] at h; exact absurd rfl h
/-! ### answers back -/
theorem wordL_out {k : Nat} (h : 15 ≤ k) : wordL k = [] := by
  obtain ⟨j, rfl⟩ : ∃ j, k = j + 15 := ⟨k - 15, by omega⟩
  rfl
theorem word_cases (k : Nat) (h : k < 15) : faultN (wordL k) = k ∧ (∀ b ∈ wordL k, b ≠ 32) ∧ wordL k ≠ [] := by
  rcases show k = 0 ∨ k = 1 ∨ k = 2 ∨ k = 3 ∨ k = 4 ∨ k = 5 ∨ k = 6 ∨ k = 7 ∨ k = 8 ∨ k = 9 ∨ k = 10 ∨ k = 11 ∨ k = 12 ∨ k = 13 ∨ k = 14 by omega with rfl | rfl | rfl | rfl | rfl | rfl | rfl | rfl | rfl | rfl | rfl | rfl | rfl | rfl | rfl <;> decide +kernel
theorem wordT_of {f : Int} (h : wordT f ≠ []) : ∃ k : Nat, f = k ∧ k < 15 ∧ wordT f = wordL k := by
  unfold wordT at *
  by_cases h0 : f < 0
  · rw [if_pos h0] at h; exact absurd rfl h
  · rw [if_neg h0] at h ⊢
    refine ⟨f.toNat, by omega, ?_, rfl⟩
    rcases Nat.lt_or_ge f.toNat 15 with h1 | h1
    · exact h1
    · exact absurd (wordL_out h1) h
theorem faultT_word {k : Nat} (h : k < 15) : faultT (wordL k) = k := by
  unfold faultT
  rw [(word_cases k h).1, if_neg (by omega)]
theorem not_digit {c : UInt8} {t : List UInt8} (h : isDig c = false) : parseF (c :: t) 1073741824 ≠ 0 := by
  unfold parseF
  rw [bad_of (c :: t) (.inr (.inr (.inr (by rw [List.all_cons, h]; rfl)))), if_pos rfl]
  omega
theorem eat_count {a : AnD} {n : Int} (h : countT n ≠ []) : eatA a (countT n) = { a with n := a.n ++ [n] } := by
  obtain ⟨h1, h2, _⟩ := parse_count h
  unfold eatA
  rw [if_pos h1, h2]
theorem eat_counts : ∀ (l : List Int) (a : AnD), (∀ n ∈ l, countT n ≠ []) → (l.map countT).foldl eatA a = { a with n := a.n ++ l }
  | [], a, _ => by simp
  | n :: l, a, h => by
    rw [List.map_cons, List.foldl_cons, eat_count (h n List.mem_cons_self), eat_counts l _ (fun x hx => h x (List.mem_cons_of_mem _ hx))]
    simp
theorem eat_bytes (a : AnD) (b : List UInt8) : eatA a (35 :: hexP b) = { a with b := b } := by
  unfold eatA
  rw [if_neg (not_digit (by decide)), if_pos (show (35 :: hexP b).head? = some 35 from rfl)]
  show { a with b := (hexR (hexP b)).1 } = _
  rw [hexR_P]
theorem eat_text (a : AnD) (t : List UInt8) : eatA a (61 :: t) = { a with t := t } := by
  unfold eatA
  rw [if_neg (not_digit (by decide)), if_neg (fun h : (61 :: t).head? = some 35 => by rw [List.head?_cons] at h; injection h with h; revert h; decide)]
  rfl
/-- What is told is read as it was. -/
theorem tell_read (a : AnD) (h : tellL a ≠ []) : (readA (tellL a)).2 = 0 ∧ (readA (tellL a)).1.f = a.f ∧ (a.f = 0 → (readA (tellL a)).1 = a) := by
  have key : gotA (tellL a) = (if a.f = 0 then a else ⟨a.f, [], [], []⟩) → (readA (tellL a)).2 = 0 ∧ (readA (tellL a)).1.f = a.f ∧ (a.f = 0 → (readA (tellL a)).1 = a) := by
    intro hg
    have ht : tellL (gotA (tellL a)) = tellL a := by
      rw [hg]
      by_cases hf : a.f = 0
      · rw [if_pos hf]
      · rw [if_neg hf]
        unfold tellL
        rw [if_pos hf]
        rw [if_pos hf]
    unfold readA
    rw [if_pos ⟨h, ht⟩, hg]
    by_cases hf : a.f = 0
    · rw [if_pos hf]; exact ⟨rfl, rfl, fun _ => rfl⟩
    · rw [if_neg hf]; exact ⟨rfl, rfl, fun e => absurd e hf⟩
  apply key
  by_cases hf : a.f = 0
  · rw [if_pos hf]
    unfold tellL at h ⊢
    rw [if_neg (by simp [hf])] at h ⊢
    by_cases hx : ([] ∈ tellW a) ∨ (a.t ≠ [] ∧ partT a.t = [])
    · rw [if_pos hx] at h; exact absurd rfl h
    rw [if_neg hx]
    have hn : ∀ n ∈ a.n, countT n ≠ [] := fun n hn e => hx (.inl (List.mem_cons_of_mem _ (by rw [← e]; exact List.mem_map_of_mem hn)))
    have ht : a.t ≠ [] → partT a.t ≠ [] := fun h1 h2 => hx (.inr ⟨h1, h2⟩)
    have hw : wordT a.f = wordL 0 := by rw [hf]; rfl
    have e1 : tellA a = wordL 0 :: (a.n.map countT ++ (if a.b = [] then [] else [35 :: hexP a.b]) ++ (if a.t = [] then [] else [61 :: a.t])) := by
      unfold tellA tellW
      rw [hw]
      simp
    have hcut : cutL 32 (Lib.join (tellA a) [32]) = tellA a := by
      rw [e1]
      refine cut_join 32 _ _ fun q hq b hb => ?_
      rcases List.mem_cons.1 hq with rfl | hq
      · exact (word_cases 0 (by decide)).2.1 b hb
      · rcases List.mem_append.1 hq with hq | hq
        · rcases List.mem_append.1 hq with hq | hq
          · obtain ⟨n, h1, rfl⟩ := List.mem_map.1 hq
            exact (parse_count (hn n h1)).2.2 b hb
          · by_cases hb0 : a.b = []
            · rw [if_pos hb0] at hq; simp at hq
            · rw [if_neg hb0] at hq
              simp only [List.mem_singleton] at hq
              subst hq
              rcases List.mem_cons.1 hb with rfl | hb
              · decide
              · exact hexP_noblank _ b hb
        · by_cases ht0 : a.t = []
          · rw [if_pos ht0] at hq; simp at hq
          · rw [if_neg ht0] at hq
            simp only [List.mem_singleton] at hq
            subst hq
            rcases List.mem_cons.1 hb with rfl | hb
            · decide
            · exact part_noblank (ht ht0) b hb
    unfold gotA
    rw [hcut, e1]
    show List.foldl eatA ⟨faultT (wordL 0), [], [], []⟩ _ = a
    rw [faultT_word (by decide), List.tail_cons, List.foldl_append, List.foldl_append, eat_counts _ _ hn]
    obtain ⟨af, ab, an, at'⟩ := a
    have hf : af = 0 := hf
    subst hf
    by_cases hb0 : ab = []
    · subst hb0
      by_cases ht0 : at' = []
      · subst ht0; simp
      · simp only [if_neg ht0, List.foldl_cons, List.foldl_nil, if_true]
        rw [eat_text]
        simp
    · simp only [if_neg hb0, List.foldl_cons, List.foldl_nil]
      rw [eat_bytes]
      by_cases ht0 : at' = []
      · subst ht0; simp
      · simp only [if_neg ht0, List.foldl_cons, List.foldl_nil]
        rw [eat_text]
        simp
  · rw [if_neg hf]
    unfold tellL at h ⊢
    rw [if_pos hf] at h ⊢
    obtain ⟨k, h1, h2, h3⟩ := wordT_of h
    rw [h3, h1]
    unfold gotA
    rw [cut_none 32 _ (word_cases k h2).2.1]
    show (⟨faultT (wordL k), [], [], []⟩ : AnD) = _
    rw [faultT_word h2]
/-- What is read is told as it was. -/
theorem read_tell {l : List UInt8} (h : (readA l).2 = 0) : tellL (readA l).1 = l := by
  unfold readA at *
  by_cases hx : l ≠ [] ∧ tellL (gotA l) = l
  · rw [if_pos hx]; exact hx.2
  · rw [if_neg hx] at h; simp at h
/-! ### operations back -/
theorem field_other {d : Int} {o : OpD} {s s' : Nat} {w : List UInt8} (h : s ≠ s') : fieldL (readD d o s w) s' = fieldL o s' := by
  unfold readD
  by_cases h1 : s = 103
  · rw [if_pos h1]; subst h1; unfold fieldL; rw [if_neg (Ne.symm h), if_neg (Ne.symm h)]
  rw [if_neg h1]
  by_cases h2 : s = 105
  · rw [if_pos h2]; subst h2; unfold fieldL; simp only [if_neg (Ne.symm h)]
  rw [if_neg h2]
  by_cases h3 : s = 101
  · rw [if_pos h3]; subst h3; unfold fieldL; simp only [if_neg (Ne.symm h)]
  rw [if_neg h3]
  by_cases h4 : s = 115
  · rw [if_pos h4]; subst h4; unfold fieldL; simp only [if_neg (Ne.symm h)]
  rw [if_neg h4]
  by_cases h5 : s = 110
  · rw [if_pos h5]; subst h5; unfold fieldL; simp only [if_neg (Ne.symm h)]
  rw [if_neg h5]
  by_cases h6 : s = 118
  · rw [if_pos h6]; subst h6; unfold fieldL; simp only [if_neg (Ne.symm h)]
  rw [if_neg h6]
  by_cases h7 : s = 120
  · rw [if_pos h7]; subst h7; unfold fieldL; simp only [if_neg (Ne.symm h)]
  rw [if_neg h7]
theorem field_read {d : Int} {o : OpD} {s : Nat} {w : List UInt8} (h : readB (readD d o s w) s w = true) : fieldL (readD d o s w) s = w := by
  unfold readB at h
  by_cases hn : numS s = true
  · rw [if_pos hn] at h
    have hp : parseF w 1073741824 = 0 := by simpa using h
    have hc := count_parse hp
    unfold numS at hn
    simp only [Bool.or_eq_true, beq_iff_eq] at hn
    rcases hn with (rfl | rfl) | rfl
    · exact hc
    · exact hc
    · exact hc
  · rw [if_neg hn] at h
    simp only [Bool.and_eq_true] at h
    simpa using h.2
theorem readD_k {d : Int} {o : OpD} {s : Nat} {w : List UInt8} : (readD d o s w).k = o.k := by
  unfold readD
  split
  · rfl
  · split
    · rfl
    · split
      · rfl
      · split
        · rfl
        · split
          · rfl
          · split
            · rfl
            · split <;> rfl
theorem foldP_keep : ∀ (ss : List UInt8) (ws : List (List UInt8)) (o o' : OpD), foldP o ss ws = some o' → o'.k = o.k ∧ ∀ s : Nat, (∀ x ∈ ss, x.toNat ≠ s) → fieldL o' s = fieldL o s
  | [], ws, o, o', h => by
    have h : some o = some o' := h
    cases h
    exact ⟨rfl, fun _ _ => rfl⟩
  | _ :: _, [], o, o', h => by cases h
  | s :: ss, w :: ws, o, o', h => by
    have h : (if readB (readD 0 o s.toNat w) s.toNat w = true then foldP (readD 0 o s.toNat w) ss ws else none) = some o' := h
    split at h
    · obtain ⟨h1, h2⟩ := foldP_keep ss ws _ _ h
      refine ⟨h1.trans readD_k, fun x hx => ?_⟩
      rw [h2 x (fun y hy => hx y (List.mem_cons_of_mem _ hy)), field_other (hx s List.mem_cons_self)]
    · cases h
theorem foldP_back : ∀ (ss : List UInt8) (ws : List (List UInt8)) (o o' : OpD), foldP o ss ws = some o' → ss.length = ws.length → ss.Nodup → (ss.map fun s => fieldL o' s.toNat) = ws
  | [], ws, o, o', _, hl, _ => by
    cases ws with
    | nil => rfl
    | cons w ws => simp at hl
  | _ :: _, [], o, o', h, _, _ => by cases h
  | s :: ss, w :: ws, o, o', h, hl, hd => by
    have h : (if readB (readD 0 o s.toNat w) s.toNat w = true then foldP (readD 0 o s.toNat w) ss ws else none) = some o' := h
    rw [List.nodup_cons] at hd
    split at h
    · next hb =>
      rw [List.map_cons, foldP_back ss ws _ _ h (by simpa using hl) hd.2]
      have h2 := (foldP_keep ss ws _ _ h).2 s.toNat (fun x hx e => hd.1 (by rw [UInt8.toNat_inj.1 e] at hx; exact hx))
      rw [h2, field_read hb]
    · cases h
theorem forms_nodup (k : Nat) (h : k < 10) : (formS k).Nodup := by
  rcases show k = 0 ∨ k = 1 ∨ k = 2 ∨ k = 3 ∨ k = 4 ∨ k = 5 ∨ k = 6 ∨ k = 7 ∨ k = 8 ∨ k = 9 by omega with rfl | rfl | rfl | rfl | rfl | rfl | rfl | rfl | rfl | rfl <;> decide
theorem sameO_self (o : OpD) : sameO o o = true := by unfold sameO; simp
/-- What is read has just that line. -/
theorem parse_back {l : List UInt8} (h : (parseO l).2 = 0) : printO (parseO l).1 = (l, 0) := by
  obtain ⟨o, ho⟩ : ∃ o, opOf l = some o := by
    cases hp : opOf l with
    | some o => exact ⟨o, rfl⟩
    | none => unfold parseO at h; rw [hp] at h; cases h
  have hpo : parseO l = (o, 0) := by unfold parseO; rw [ho]
  have ho2 := ho
  unfold opOf at ho2
  simp only [] at ho2
  obtain ⟨k, hk⟩ : ∃ k, k = kindL ((cutL 32 l).headD []) := ⟨_, rfl⟩
  rw [← hk] at ho2
  by_cases hk10 : k < 10
  · rw [if_pos hk10] at ho2
    have hfind : (formW k == (cutL 32 l).headD [] && !(formW k == [])) = true := by
      unfold kindL at hk
      cases hf : (List.range 10).find? fun k => formW k == (cutL 32 l).headD [] && !(formW k == []) with
      | none => rw [hf] at hk; simp at hk; omega
      | some j =>
        rw [hf] at hk
        simp at hk
        subst hk
        have hs := List.find?_some (p := fun k => formW k == (cutL 32 l).headD [] && !(formW k == [])) hf
        exact hs
    simp only [Bool.and_eq_true, beq_iff_eq, Bool.not_eq_true', beq_eq_false_iff_ne] at hfind
    obtain ⟨hw, hne⟩ := hfind
    have hk1 : 1 ≤ k := by
      rcases Nat.eq_zero_or_pos k with h | h
      · subst h; exact absurd rfl hne
      · exact h
    unfold tryL at ho2
    by_cases hlen : (cutL 32 l).length = 1 + (formS k).length
    · rw [if_pos hlen] at ho2
      have hb := foldP_back _ _ _ _ ho2 (by rw [List.length_tail]; omega) (forms_nodup k hk10)
      have hkk : o.k = (k : Int) := (foldP_keep _ _ _ _ ho2).1
      have hline : lineL o = l := by
        unfold lineL
        rw [if_pos (by omega), hkk]
        show Lib.join (formW k :: (formS k).map fun s => fieldL o s.toNat) [32] = l
        rw [hb, hw]
        have := join_cut 32 l
        cases hc : cutL 32 l with
        | nil => exact absurd hc (cut_ne 32 l)
        | cons p ps => rw [hc] at this; exact this
      rw [hpo]
      show printO o = (l, 0)
      unfold printO
      rw [hline, hpo, if_pos ⟨by omega, rfl, sameO_self o⟩]
    · rw [if_neg hlen] at ho2; cases ho2
  · rw [if_neg hk10] at ho2; cases ho2
theorem sameO_symm {a b : OpD} (h : sameO a b = true) : sameO b a = true := by
  unfold sameO at *
  simp only [Bool.and_eq_true, beq_iff_eq] at h ⊢
  obtain ⟨⟨⟨⟨⟨⟨⟨h1, h2⟩, h3⟩, h4⟩, h5⟩, h6⟩, h7⟩, h8⟩ := h
  exact ⟨⟨⟨⟨⟨⟨⟨h1.symm, h2.symm⟩, h3.symm⟩, h4.symm⟩, h5.symm⟩, h6.symm⟩, h7.symm⟩, h8.symm⟩
/-- What is printed is read as it was. -/
theorem print_back {o : OpD} (h : (printO o).2 = 0) : (parseO (printO o).1).2 = 0 ∧ sameO (parseO (printO o).1).1 o = true := by
  unfold printO at *
  by_cases hx : (1 ≤ o.k ∧ o.k < 10) ∧ (parseO (lineL o)).2 = 0 ∧ sameO o (parseO (lineL o)).1 = true
  · rw [if_pos hx]; exact ⟨hx.2.1, sameO_symm hx.2.2⟩
  · rw [if_neg hx] at h; simp at h
end Go.Proofs.YtadenlhnfkccaaaGreatDoor

/- Lines of scripts, in plain Lean. No condition. -/
namespace Go.Proofs.YtadenlhnfkccaaaGreatDoor
open Go.RowKit
set_option linter.unusedVariables false
set_option linter.unusedSimpArgs false
/-- What a line has. -/
structure LnD where
  k : Int
  o : OpD
  n : Int
  p : List Int
  t : Int
  a : Int
  g : List UInt8
  e : Int
  i : List UInt8
  b : List UInt8
def ln0 : LnD := ⟨0, op0, 0, [], 0, 0, [], 0, [], []⟩
def mst : Int := 1073741824
/-- The words, and the signs of what stands behind them. -/
def scrW : Nat → List UInt8
  | 2 => [97, 114, 109]
  | 3 => [99, 114, 97, 115, 104]
  | 4 => [111, 112, 101, 110]
  | 5 => [108, 111, 103]
  | 6 => [115, 101, 116, 116, 108, 101]
  | 7 => [115, 112, 111, 105, 108]
  | 8 => [108, 105, 115, 116]
  | _ => []
def scrS : Nat → List UInt8
  | 2 => [110]
  | 3 => [107, 116, 97]
  | 5 => [103, 101, 105]
  | 7 => [110, 97, 120]
  | _ => []
def keepB (w : List UInt8) : Bool := w == [45] || (w.all (fun c => c == 48 || c == 49) && decide (1 ≤ w.length) && decide (w.length ≤ 64))
def keepL (w : List UInt8) : List Int := if w = [45] then [] else w.map fun c => (c.toNat : Int) - 48
def keepT (p : List Int) : List UInt8 := if p = [] then [45] else p.flatMap printL
/-- A line with a word read by its sign. -/
def readT (d : LnD) (s : Nat) (w : List UInt8) : LnD :=
  if s = 110 then { d with n := parseN w 1073741824 } else if s = 116 then { d with t := parseN w 1073741824 } else if s = 97 then { d with a := parseN w 1073741824 } else if s = 101 then { d with e := parseN w 1073741824 }
  else if s = 107 then { d with p := keepL w } else if s = 103 then { d with g := w } else if s = 105 then { d with i := w } else if s = 120 then { d with b := (hexR w).1 } else d
def hexB (w : List UInt8) : Bool := (hexR w).2.2 == 0 && decide (0 < (hexR w).1.length) && decide ((hexR w).1.length ≤ 512)
/-- Is a word one of its sign? -/
def okT (s : Nat) (w : List UInt8) : Bool := if s = 107 then keepB w else if s = 103 ∨ s = 105 then partL w else if s = 120 then hexB w else parseF w 1073741824 == 0
def foldT (d : LnD) : List UInt8 → List (List UInt8) → Option LnD
  | [], _ => some d
  | s :: ss, w :: ws => if okT s.toNat w = true then foldT (readT d s.toNat w) ss ws else none
  | _ :: _, [] => none
/-- The kind of a word; 9: it is none. -/
def scrK (w : List UInt8) : Nat := ((List.range 9).find? fun k => scrW k == w && !(scrW k == [])).getD 9
def tryT (k : Nat) (ws : List (List UInt8)) : Option LnD := if ws.length = 1 + (scrS k).length then foldT { ln0 with k := (k : Int) } (scrS k) ws.tail else none
def lnOf (l : List UInt8) : Option LnD := let k := scrK ((cutL 32 l).headD []); if k < 9 then tryT k (cutL 32 l) else none
def parseT (l : List UInt8) : LnD × Nat := if (parseO l).2 = 0 then ({ ln0 with k := 1, o := (parseO l).1 }, 0) else match lnOf l with
  | some d => (d, 0)
  | none => (ln0, 3)
def sameT (x y : LnD) : Bool := x.k == y.k && sameO x.o y.o && x.n == y.n && x.p == y.p && x.t == y.t && x.a == y.a && (x.g == y.g && x.e == y.e && x.i == y.i) && x.b == y.b
def wordS (d : LnD) (s : Nat) : List UInt8 :=
  if s = 110 then printL d.n else if s = 116 then printL d.t else if s = 97 then printL d.a else if s = 101 then printL d.e else if s = 103 then d.g else if s = 105 then d.i else if s = 120 then hexP d.b else keepT d.p
def textT (d : LnD) : List UInt8 := if d.k = 1 then (printO d.o).1 else if 0 ≤ d.k ∧ d.k < 9 then Lib.join (scrW d.k.toNat :: (scrS d.k.toNat).map fun s => wordS d s.toNat) [32] else []
def printT (d : LnD) : List UInt8 × Nat := if (parseT (textT d)).2 = 0 ∧ sameT d (parseT (textT d)).1 = true then (textT d, 0) else ([], 2)
end Go.Proofs.YtadenlhnfkccaaaGreatDoor
