/- Names of groups: what is said of them. No condition. -/
import Derived.Test.YtciokbponfilfaaDoorObGrpW
import Derived.Test.YtciokbponfilfaaDoorObGrpB
import Derived.Outline
namespace Go.Proofs.YtciokbponfilfaaDoor
open Go.RowKit
set_option linter.unusedVariables false
set_option linter.unusedSimpArgs false
theorem txt_of {ps : List (List UInt8)} (h : Named ps) : strc (joinR ps).1 = .string ⟨(joinL ps).toArray⟩ := by rw [h.1]; rfl
theorem toList_mk (l : List UInt8) : (⟨l.toArray⟩ : ByteArray).toList = l := by rw [ByteArray.toList_eq]
theorem epoch_eq {p q : List UInt8} {n m : Int} (hp : partL p = true) (hq : partL q = true) (n0 : 0 ≤ n) (n1 : n ≤ 99999999) (m0 : 0 ≤ m) (m1 : m ≤ 99999999) : (joinL (epochP p n) == joinL (epochP q m)) = (p == q && n == m) := by
  apply eq_of (epoch_named hp n0 n1) (epoch_named hq m0 m1)
  rw [Bool.and_eq_true, beq_iff_eq, beq_iff_eq]
  unfold epochP
  constructor
  · intro e
    injection e with _ e
    injection e with e1 e
    injection e with e2 _
    exact ⟨e1, print_inj n0 m0 e2⟩
  · rintro ⟨rfl, rfl⟩; rfl
theorem head_eq {p q : List UInt8} (hp : partL p = true) (hq : partL q = true) : (joinL (headP p) == joinL (headP q)) = (p == q) := by
  apply eq_of (head_named hp) (head_named hq)
  rw [beq_iff_eq]
  unfold headP
  constructor
  · intro e
    injection e with _ e
    injection e with e1 _
  · rintro rfl; rfl
/-- The three names, in their order. -/
def rowP (id : List UInt8) (n k : Int) (i : Nat) : List (List UInt8) := if i = 0 then epochP id n else if i = 1 then chainP id n k else stageP id
theorem row_named {id : List UInt8} {n k : Int} (h : partL id = true) (h0 : 0 ≤ n) (h1 : n ≤ 99999999) (k0 : 0 ≤ k) (k1 : k ≤ 3) (i : Nat) : Named (rowP id n k i) := by
  unfold rowP
  split
  · exact epoch_named h h0 h1
  · split
    · exact chain_named h h0 h1 k0 k1
    · exact stage_named h
theorem row_below {id : List UInt8} {n k : Int} (h : partL id = true) (h0 : 0 ≤ n) (h1 : n ≤ 99999999) (k0 : 0 ≤ k) (k1 : k ≤ 3) (i : Nat) : belowR (splitL (joinL (rowP id n k i))) (splitL (joinL (headP id))) = true := by
  rw [(row_named h h0 h1 k0 k1 i).2.2.2, (head_named h).2.2.2]
  unfold rowP
  split
  · exact below_head (by simp)
  · split
    · exact below_head (by simp)
    · exact below_head (by simp)
theorem row_key {id b : List UInt8} {n k : Int} (h : partL id = true) (hb : partL b = true) (h0 : 0 ≤ n) (h1 : n ≤ 99999999) (k0 : 0 ≤ k) (k1 : k ≤ 3) (i : Nat) : (joinL (rowP id n k i) == joinL (keyP b)) = false := by
  apply ne_of (row_named h h0 h1 k0 k1 i) (key_named hb)
  unfold rowP keyP epochP chainP stageP
  split
  · simp
  · split <;> simp
theorem row_apart {id : List UInt8} {n k : Int} (h : partL id = true) (h0 : 0 ≤ n) (h1 : n ≤ 99999999) (k0 : 0 ≤ k) (k1 : k ≤ 3) (i j : Nat) (hi : i < 3) (hj : j < i) : (joinL (rowP id n k i) == joinL (rowP id n k j)) = false := by
  apply ne_of (row_named h h0 h1 k0 k1 i) (row_named h h0 h1 k0 k1 j)
  rcases show (i = 1 ∧ j = 0) ∨ (i = 2 ∧ j = 0) ∨ (i = 2 ∧ j = 1) by omega with ⟨rfl, rfl⟩ | ⟨rfl, rfl⟩ | ⟨rfl, rfl⟩ <;> simp [rowP, epochP, chainP, stageP]
theorem row_len (id : List UInt8) (n k : Int) (i : Nat) : (rowP id n k i).length ≤ 4 := by
  unfold rowP epochP chainP stageP
  split
  · simp
  · split <;> simp
set_option maxRecDepth 100000 in
set_option maxHeartbeats 4000000 in
theorem groupApart_walk (a b : ByteArray) (n m k : Int) (w : World) (hT : U8 w) (hP : Pow10 w) (ha : a.size ≤ 9223372036854775807) (hb : b.size ≤ 9223372036854775807) :
    Calls Tryd.prog 5 #[.string a, .string b, .int .i64 n, .int .i64 m, .int .i64 k] w fun e w' => e = .returned (.bool true) ∧ Below w.heap.size w w' := by
  show Calls _ _ _ _ fun e w' => e = .returned (.bool true) ∧ Gr w w'
  have HT := Lib.hid hT; have HPW := Lib.hid hP
  have HAL : Hid (∀ wr, Gr w wr → Calls Tryd.prog 16 #[] wr fun e w' => e = .returned (.bool true) ∧ Gr wr w') := fun wr g => alive35_any wr (hT.mono g) (hP.mono g)
  clear hT hP
  by_cases h1 : 100 < a.size
  · have t1 : decide ((100 : Int) < (a.size : Int)) = true := decide_eq_true (by omega)
    go_enter Tryd.func5, Tryd.ntmps5
    go_wp2_with fail
    refine (HAL.out _ (Gr.refl _)).mono ?_
    rintro e wz ⟨rfl, gz⟩
    have GZ := Lib.hid (Gr.trans (Gr.refl _) gz); clear gz
    go_wp2_with fail
    go_ret
    exact ⟨rfl, GZ.out⟩
  have t1 : decide ((100 : Int) < (a.size : Int)) = false := decide_eq_false (by omega)
  by_cases h2 : 100 < b.size
  · have t2 : decide ((100 : Int) < (b.size : Int)) = true := decide_eq_true (by omega)
    go_enter Tryd.func5, Tryd.ntmps5
    go_wp2_with fail
    refine (HAL.out _ (Gr.refl _)).mono ?_
    rintro e wz ⟨rfl, gz⟩
    have GZ := Lib.hid (Gr.trans (Gr.refl _) gz); clear gz
    go_wp2_with fail
    go_ret
    exact ⟨rfl, GZ.out⟩
  have t2 : decide ((100 : Int) < (b.size : Int)) = false := decide_eq_false (by omega)
  obtain ⟨p, hp⟩ : ∃ p, p = a.data.toList := ⟨_, rfl⟩
  have e1 : strc p = .string a := by rw [hp]; rfl
  have hpl : p.length ≤ 100 := by rw [hp]; show a.data.toList.length ≤ 100; have : a.data.toList.length = a.size := Array.length_toList; omega
  have hpa : a.toList = p := by rw [hp, ByteArray.toList_eq]
  obtain ⟨q, hq⟩ : ∃ q, q = b.data.toList := ⟨_, rfl⟩
  have e2 : strc q = .string b := by rw [hq]; rfl
  have hql : q.length ≤ 100 := by rw [hq]; show b.data.toList.length ≤ 100; have : b.data.toList.length = b.size := Array.length_toList; omega
  have hqb : b.toList = q := by rw [hq, ByteArray.toList_eq]
  have HPA : Hid (∀ wr, Calls Tryd.prog 15 #[.string a] wr fun e w' => e = .returned (.bool (partL p)) ∧ Gr wr w') := fun wr => by rw [← e1]; exact refPart_any p wr (by omega)
  have HPB : Hid (∀ wr, Calls Tryd.prog 15 #[.string b] wr fun e w' => e = .returned (.bool (partL q)) ∧ Gr wr w') := fun wr => by rw [← e2]; exact refPart_any q wr (by omega)
  cases hap : partL p with
  | false =>
    rw [hap] at HPA
    go_enter Tryd.func5, Tryd.ntmps5
    go_wp2_with fail
    refine (HPA.out w).mono ?_
    rintro e w1 ⟨rfl, g1⟩
    have G1 := Lib.hid g1; clear g1
    go_wp2_with fail
    refine (HAL.out _ G1.out).mono ?_
    rintro e wz ⟨rfl, gz⟩
    have GZ := Lib.hid (Gr.trans G1.out gz); clear gz
    go_wp2_with fail
    go_ret
    exact ⟨rfl, GZ.out⟩
  | true =>
  rw [hap] at HPA
  cases hbq : partL q with
  | false =>
    rw [hbq] at HPB
    go_enter Tryd.func5, Tryd.ntmps5
    go_wp2_with fail
    refine (HPA.out w).mono ?_
    rintro e w1 ⟨rfl, g1⟩
    have G1 := Lib.hid g1; clear g1
    go_wp2_with fail
    refine (HPB.out _).mono ?_
    rintro e w2 ⟨rfl, g2⟩
    have G2 := Lib.hid (Gr.trans G1.out g2); clear g2
    go_wp2_with fail
    refine (HAL.out _ G2.out).mono ?_
    rintro e wz ⟨rfl, gz⟩
    have GZ := Lib.hid (Gr.trans G2.out gz); clear gz
    go_wp2_with fail
    go_ret
    exact ⟨rfl, GZ.out⟩
  | true =>
  rw [hbq] at HPB
  by_cases n0 : n < 0
  · have t3 : decide (n < 0) = true := decide_eq_true n0
    go_enter Tryd.func5, Tryd.ntmps5
    go_wp2_with fail
    refine (HPA.out w).mono ?_
    rintro e w1 ⟨rfl, g1⟩
    have G1 := Lib.hid g1; clear g1
    go_wp2_with fail
    refine (HPB.out _).mono ?_
    rintro e w2 ⟨rfl, g2⟩
    have G2 := Lib.hid (Gr.trans G1.out g2); clear g2
    go_wp2_with fail
    refine (HAL.out _ G2.out).mono ?_
    rintro e wz ⟨rfl, gz⟩
    have GZ := Lib.hid (Gr.trans G2.out gz); clear gz
    go_wp2_with fail
    go_ret
    exact ⟨rfl, GZ.out⟩
  have t3 : decide (n < 0) = false := decide_eq_false n0
  by_cases n1 : 99999999 < n
  · have t4 : decide (99999999 < n) = true := decide_eq_true n1
    go_enter Tryd.func5, Tryd.ntmps5
    go_wp2_with fail
    refine (HPA.out w).mono ?_
    rintro e w1 ⟨rfl, g1⟩
    have G1 := Lib.hid g1; clear g1
    go_wp2_with fail
    refine (HPB.out _).mono ?_
    rintro e w2 ⟨rfl, g2⟩
    have G2 := Lib.hid (Gr.trans G1.out g2); clear g2
    go_wp2_with fail
    refine (HAL.out _ G2.out).mono ?_
    rintro e wz ⟨rfl, gz⟩
    have GZ := Lib.hid (Gr.trans G2.out gz); clear gz
    go_wp2_with fail
    go_ret
    exact ⟨rfl, GZ.out⟩
  have t4 : decide (99999999 < n) = false := decide_eq_false n1
  by_cases m0 : m < 0
  · have t5 : decide (m < 0) = true := decide_eq_true m0
    go_enter Tryd.func5, Tryd.ntmps5
    go_wp2_with fail
    refine (HPA.out w).mono ?_
    rintro e w1 ⟨rfl, g1⟩
    have G1 := Lib.hid g1; clear g1
    go_wp2_with fail
    refine (HPB.out _).mono ?_
    rintro e w2 ⟨rfl, g2⟩
    have G2 := Lib.hid (Gr.trans G1.out g2); clear g2
    go_wp2_with fail
    refine (HAL.out _ G2.out).mono ?_
    rintro e wz ⟨rfl, gz⟩
    have GZ := Lib.hid (Gr.trans G2.out gz); clear gz
    go_wp2_with fail
    go_ret
    exact ⟨rfl, GZ.out⟩
  have t5 : decide (m < 0) = false := decide_eq_false m0
  by_cases m1 : 99999999 < m
  · have t6 : decide (99999999 < m) = true := decide_eq_true m1
    go_enter Tryd.func5, Tryd.ntmps5
    go_wp2_with fail
    refine (HPA.out w).mono ?_
    rintro e w1 ⟨rfl, g1⟩
    have G1 := Lib.hid g1; clear g1
    go_wp2_with fail
    refine (HPB.out _).mono ?_
    rintro e w2 ⟨rfl, g2⟩
    have G2 := Lib.hid (Gr.trans G1.out g2); clear g2
    go_wp2_with fail
    refine (HAL.out _ G2.out).mono ?_
    rintro e wz ⟨rfl, gz⟩
    have GZ := Lib.hid (Gr.trans G2.out gz); clear gz
    go_wp2_with fail
    go_ret
    exact ⟨rfl, GZ.out⟩
  have t6 : decide (99999999 < m) = false := decide_eq_false m1
  by_cases k0 : k < 0
  · have t7 : decide (k < 0) = true := decide_eq_true k0
    go_enter Tryd.func5, Tryd.ntmps5
    go_wp2_with fail
    refine (HPA.out w).mono ?_
    rintro e w1 ⟨rfl, g1⟩
    have G1 := Lib.hid g1; clear g1
    go_wp2_with fail
    refine (HPB.out _).mono ?_
    rintro e w2 ⟨rfl, g2⟩
    have G2 := Lib.hid (Gr.trans G1.out g2); clear g2
    go_wp2_with fail
    refine (HAL.out _ G2.out).mono ?_
    rintro e wz ⟨rfl, gz⟩
    have GZ := Lib.hid (Gr.trans G2.out gz); clear gz
    go_wp2_with fail
    go_ret
    exact ⟨rfl, GZ.out⟩
  have t7 : decide (k < 0) = false := decide_eq_false k0
  by_cases k1 : k ≥ 4
  · have t8 : decide (k ≥ 4) = true := decide_eq_true k1
    go_enter Tryd.func5, Tryd.ntmps5
    go_wp2_with fail
    refine (HPA.out w).mono ?_
    rintro e w1 ⟨rfl, g1⟩
    have G1 := Lib.hid g1; clear g1
    go_wp2_with fail
    refine (HPB.out _).mono ?_
    rintro e w2 ⟨rfl, g2⟩
    have G2 := Lib.hid (Gr.trans G1.out g2); clear g2
    go_wp2_with fail
    refine (HAL.out _ G2.out).mono ?_
    rintro e wz ⟨rfl, gz⟩
    have GZ := Lib.hid (Gr.trans G2.out gz); clear gz
    go_wp2_with fail
    go_ret
    exact ⟨rfl, GZ.out⟩
  have t8 : decide (k ≥ 4) = false := decide_eq_false k1
  -- the texts
  obtain ⟨xs, hxs⟩ : ∃ xs : Nat → ByteArray, xs = fun i => ⟨(joinL (rowP p n k i)).toArray⟩ := ⟨_, rfl⟩
  obtain ⟨E2, hE2⟩ : ∃ x : ByteArray, x = ⟨(joinL (epochP q m)).toArray⟩ := ⟨_, rfl⟩
  obtain ⟨H1, hH1⟩ : ∃ x : ByteArray, x = ⟨(joinL (headP p)).toArray⟩ := ⟨_, rfl⟩
  obtain ⟨H2, hH2⟩ : ∃ x : ByteArray, x = ⟨(joinL (headP q)).toArray⟩ := ⟨_, rfl⟩
  obtain ⟨K, hK⟩ : ∃ x : ByteArray, x = ⟨(joinL (keyP q)).toArray⟩ := ⟨_, rfl⟩
  have hx0 : xs 0 = ⟨(joinL (epochP p n)).toArray⟩ := by rw [hxs]; rfl
  have hx1 : xs 1 = ⟨(joinL (chainP p n k)).toArray⟩ := by rw [hxs]; rfl
  have hx2 : xs 2 = ⟨(joinL (stageP p)).toArray⟩ := by rw [hxs]; rfl
  have HE : Hid (∀ wr, Gr w wr → Calls Tryd.prog 17 #[.string a, .int .i64 n] wr fun e w' => e = .returned (.string (xs 0)) ∧ Gr wr w') := fun wr g => by
    have h := epoch_any a n wr (by omega) (by omega) (by omega) (HT.out.mono g) (HPW.out.mono g)
    rw [← hp, txt_of (epoch_named hap (by omega) (by omega)), ← hx0] at h
    exact h
  have HC : Hid (∀ wr, Gr w wr → Calls Tryd.prog 18 #[.string a, .int .i64 n, .int .i64 k] wr fun e w' => e = .returned (.string (xs 1)) ∧ Gr wr w') := fun wr g => by
    have h := chain_any a n k wr (by omega) (by omega) (by omega) (by omega) (by omega) (HT.out.mono g) (HPW.out.mono g)
    rw [← hp, txt_of (chain_named hap (by omega) (by omega) (by omega) (by omega)), ← hx1] at h
    exact h
  have HS : Hid (∀ wr, Gr w wr → Calls Tryd.prog 19 #[.string a] wr fun e w' => e = .returned (.string (xs 2)) ∧ Gr wr w') := fun wr g => by
    have h := stage_any a wr (by omega) (HT.out.mono g)
    rw [← hp, txt_of (stage_named hap), ← hx2] at h
    exact h
  have HEB : Hid (∀ wr, Gr w wr → Calls Tryd.prog 17 #[.string b, .int .i64 m] wr fun e w' => e = .returned (.string E2) ∧ Gr wr w') := fun wr g => by
    have h := epoch_any b m wr (by omega) (by omega) (by omega) (HT.out.mono g) (HPW.out.mono g)
    rw [← hq, txt_of (epoch_named hbq (by omega) (by omega)), ← hE2] at h
    exact h
  have HHA : Hid (∀ wr, Gr w wr → Calls Tryd.prog 22 #[.string a] wr fun e w' => e = .returned (.string H1) ∧ Gr wr w') := fun wr g => by
    have h := head_any a wr (by omega) (HT.out.mono g)
    rw [← hp, txt_of (head_named hap), ← hH1] at h
    exact h
  have HHB : Hid (∀ wr, Gr w wr → Calls Tryd.prog 22 #[.string b] wr fun e w' => e = .returned (.string H2) ∧ Gr wr w') := fun wr g => by
    have h := head_any b wr (by omega) (HT.out.mono g)
    rw [← hq, txt_of (head_named hbq), ← hH2] at h
    exact h
  have HKB : Hid (∀ wr, Gr w wr → Calls Tryd.prog 23 #[.string b] wr fun e w' => e = .returned (.string K) ∧ Gr wr w') := fun wr g => by
    have h := key_any b wr (by omega) (HT.out.mono g)
    rw [← hq, txt_of (key_named hbq), ← hK] at h
    exact h
  have hjl : ∀ i, (joinL (rowP p n k i)).length ≤ 100000 := fun i => by
    have hB : ∀ x ∈ rowP p n k i, x.length ≤ 10000 := fun x hx => by
      have hn := (print_small n (by omega) (by omega)).2.2
      have hk := (print_small k (by omega) (by omega)).2.2
      unfold rowP epochP chainP stageP at hx
      split at hx
      · simp at hx; rcases hx with rfl | rfl | rfl | rfl <;> simp <;> omega
      · split at hx
        · simp at hx; rcases hx with rfl | rfl | rfl | rfl <;> simp <;> omega
        · simp at hx; rcases hx with rfl | rfl | rfl <;> simp <;> omega
    have h := joinL_len 10000 _ hB
    have h4 : (rowP p n k i).length ≤ 4 := row_len p n k i
    have : (rowP p n k i).length * (10000 + 1) ≤ 4 * (10000 + 1) := Nat.mul_le_mul_right _ h4
    omega
  have hhl : (joinL (headP p)).length ≤ 100000 := by
    have h := joinL_len 10000 (headP p) (fun x hx => by
      have hx : x ∈ [[103], p] := hx
      simp at hx
      rcases hx with rfl | rfl
      · simp
      · omega)
    have h2 : (headP p).length = 2 := rfl
    rw [h2] at h
    omega
  have HRG : Hid (∀ i wr, Calls Tryd.prog 20 #[.string (xs i)] wr fun e w' => e = .returned (.bool true) ∧ Gr wr w') := fun i wr => by
    have h := refRight_any (joinL (rowP p n k i)) wr (hjl i)
    rw [(row_named hap (by omega) (by omega) (by omega) (by omega) i).2.1] at h
    rw [hxs]; exact h
  have HBL : Hid (∀ i wr, Calls Tryd.prog 21 #[.string (xs i), .string H1] wr fun e w' => e = .returned (.bool true) ∧ Gr wr w') := fun i wr => by
    have h := refBelow_any (joinL (rowP p n k i)) (joinL (headP p)) wr (hjl i) hhl
    rw [row_below hap (by omega) (by omega) (by omega) (by omega) i] at h
    rw [hxs, hH1]; exact h
  have HKE : Hid (∀ i, ((xs i).toList == K.toList) = false) := fun i => by
    rw [hxs, hK]
    show ((⟨(joinL (rowP p n k i)).toArray⟩ : ByteArray).toList == _) = false
    rw [toList_mk, toList_mk]
    exact row_key hap hbq (by omega) (by omega) (by omega) (by omega) i
  have HAP : Hid (∀ i j, i < 3 → j < i → ((xs i).toList == (xs j).toList) = false) := fun i j hi hj => by
    rw [hxs]
    show ((⟨(joinL (rowP p n k i)).toArray⟩ : ByteArray).toList == (⟨(joinL (rowP p n k j)).toArray⟩ : ByteArray).toList) = false
    rw [toList_mk, toList_mk]
    exact row_apart hap (by omega) (by omega) (by omega) (by omega) i j hi hj
  have HEE : Hid (((xs 0).toList == E2.toList) = (p == q && n == m)) := by
    show _ = _
    rw [hx0, hE2, toList_mk, toList_mk]
    exact epoch_eq hap hbq (by omega) (by omega) (by omega) (by omega)
  have HHE : Hid ((H1.toList == H2.toList) = (p == q)) := by
    show _ = _
    rw [hH1, hH2, toList_mk, toList_mk]
    exact head_eq hap hbq
  have HHK : Hid ((H1.toList == K.toList) = false) := by
    show _ = _
    rw [hH1, hK, toList_mk, toList_mk]
    exact ne_of (head_named hap) (key_named hbq) (by simp [headP, keyP])
  have HAB : Hid ((a.toList == b.toList) = (p == q)) := by show _ = _; rw [hpa, hqb]
  clear hxs hE2 hH1 hH2 hK hx0 hx1 hx2 hjl hhl e1 e2 hp hq hpl hql hpa hqb hap hbq
  go_enter Tryd.func5, Tryd.ntmps5
  go_wp2_with fail
  refine (HPA.out w).mono ?_
  rintro e w1 ⟨rfl, g1⟩
  have G1 := Lib.hid g1; clear g1
  go_wp2_with fail
  refine (HPB.out _).mono ?_
  rintro e w2 ⟨rfl, g2⟩
  have G2 := Lib.hid (Gr.trans G1.out g2); clear g2
  go_wp2_with fail
  clear t1 t2 t3 t4 t5 t6 t7 t8
  refine (HE.out _ G2.out).mono ?_
  rintro e w3 ⟨rfl, g3⟩
  have G3 := Lib.hid (Gr.trans G2.out g3); clear g3
  go_wp2_with fail
  refine (HC.out _ G3.out).mono ?_
  rintro e w4 ⟨rfl, g4⟩
  have G4 := Lib.hid (Gr.trans G3.out g4); clear g4
  go_wp2_with fail
  refine (HS.out _ G4.out).mono ?_
  rintro e w5 ⟨rfl, g5⟩
  have G5 := Lib.hid (Gr.trans G4.out g5); clear g5
  go_wp2_with fail
  have hblk := Blk.new w5 9 #[.string (xs 0), .string (xs 1), .string (xs 2)]
  have g6 : Gr w5 (w5.alloc (.cells #[.string (xs 0), .string (xs 1), .string (xs 2)] 9)) := Gr.alloc w5 _
  obtain ⟨wl, hwl⟩ : ∃ wl, wl = w5.alloc (.cells #[.string (xs 0), .string (xs 1), .string (xs 2)] 9) := ⟨_, rfl⟩
  rw [← hwl] at hblk g6 ⊢
  have G6 := Lib.hid (Gr.trans G5.out g6)
  have HL : Hid (∀ i, i < 3 → ∀ wq, Gr wl wq → wq.cell? ⟨w5.heap.size, i, none⟩ = some (.string (xs i))) := fun i hi wq g => by
    rw [g.cell (p := ⟨w5.heap.size, i, none⟩) hblk.lt, hblk.cell]
    rcases show i = 0 ∨ i = 1 ∨ i = 2 by omega with rfl | rfl | rfl <;> rfl
  clear hblk g6 hwl
  go_loopw [12] (fun i wr => ∃ k : Nat, k ≤ 3 ∧ i = .int .i64 k ∧ Gr wl wr) (fun i _ => 3 - (intOf i).toNat)
  case atStart => exact ⟨0, by omega, rfl, Gr.refl _⟩
  case round =>
    obtain ⟨i, hi, rfl, g⟩ := hrel
    have G := Lib.hid g; clear g
    by_cases hlt : i < 3
    · have t1 : decide ((i : Int) < 3) = true := decide_eq_true (by omega)
      have tk := HKE.out i
      go_wp2_with fail
      have hi3 : (i : Int) < 3 := by omega
      refine wp_region_quiet (C := fun w' => Below (wr).heap.size (wr) w') (by kernel_rfl) (by kernel_rfl) (Below.refl _ _).drew ?_
      simp only
      repeat (first
        | go_big_quiet_skip
        | (go_big_quiet_want
           apply Exists.intro
           refine ⟨fun wq hq => ?_, ?_⟩
           · (have c0 := HL.out i hlt wq (below_both G.out hq)
              go_simp
              first
                | done
                | exact rfl
                | (with_reducible exact ⟨rfl, rfl⟩)
                | (go_at_call 20; exact (HRG.out i wq).mono fun e w2 ⟨he, hb⟩ => ⟨he, below_both hq hb⟩) | (go_at_call 22; exact (HHA.out wq (Gr.trans G6.out (Gr.trans G.out hq))).mono fun e w2 ⟨he, hb⟩ => ⟨he, below_both hq hb⟩) | (go_at_call 21; exact (HBL.out i wq).mono fun e w2 ⟨he, hb⟩ => ⟨he, below_both hq hb⟩) | (go_at_call 23; exact (HKB.out wq (Gr.trans G6.out (Gr.trans G.out hq))).mono fun e w2 ⟨he, hb⟩ => ⟨he, below_both hq hb⟩))
           go_simp
           go_big_quiet_on))
      refine wpQuiet_nil ?_
      intro wq hq
      have GQ : Hid (Gr wl wq) := Gr.trans G.out hq
      clear hq
      go_wp2_with fail
      go_loopw [13] (fun j ws => ∃ q : Nat, q ≤ i ∧ j = .int .i64 q ∧ Gr wl ws) (fun j _ => i - (intOf j).toNat)
      case atStart => exact ⟨0, by omega, rfl, GQ.out⟩
      case round =>
        obtain ⟨j, hj, rfl, gs⟩ := hrel
        rename_i ws
        by_cases jl : j < i
        · have c0 := HL.out i hlt _ gs
          have c1 := HL.out j (by omega) _ gs
          have tij := HAP.out i j hlt jl
          have hj3 : (j : Int) < 3 := by omega
          have GS := Lib.hid gs
          clear gs
          go_wp2
          go_quiet (fail)
          go_wp2
          refine ⟨⟨j + 1, by omega, by first | trivial | go_num, belowN GS.out _⟩, ?_⟩
          show i - ((j : Int) + 1).toNat < i - (j : Int).toNat
          omega
        · obtain rfl : j = i := by omega
          have GS := Lib.hid gs
          clear gs
          go_wp2_with fail
          go_roundw
          case rel => exact ⟨j + 1, by omega, by first | trivial | go_num, GS.out⟩
          case measure =>
            show 3 - ((j : Int) + 1).toNat < 3 - (j : Int).toNat
            omega
    · obtain rfl : i = 3 := by omega
      have t1 : decide (((3 : Nat) : Int) < 3) = false := by decide
      have GW := Lib.hid (Gr.trans G6.out G.out)
      have hab := HAB.out
      have hee := HEE.out
      have hhe := HHE.out
      have hhk := HHK.out
      cases hv : (p == q) with
      | false =>
        rw [hv] at hab hee hhe
        have hee : ((xs 0).toList == E2.toList) = false := hee
        go_wp2_with fail
        refine (HE.out _ GW.out).mono ?_
        rintro e w6 ⟨rfl, g6⟩
        have K1 := Lib.hid (Gr.trans GW.out g6); clear g6
        go_wp2_with fail
        refine (HEB.out _ K1.out).mono ?_
        rintro e w7 ⟨rfl, g7⟩
        have K2 := Lib.hid (Gr.trans K1.out g7); clear g7
        go_wp2_with fail
        refine (HHA.out _ K2.out).mono ?_
        rintro e w8 ⟨rfl, g8⟩
        have K3 := Lib.hid (Gr.trans K2.out g8); clear g8
        go_wp2_with fail
        refine (HHB.out _ K3.out).mono ?_
        rintro e w9 ⟨rfl, g9⟩
        have K4 := Lib.hid (Gr.trans K3.out g9); clear g9
        go_wp2_with fail
        refine (HHA.out _ K4.out).mono ?_
        rintro e w10 ⟨rfl, g10⟩
        have K5 := Lib.hid (Gr.trans K4.out g10); clear g10
        go_wp2_with fail
        refine (HKB.out _ K5.out).mono ?_
        rintro e w11 ⟨rfl, g11⟩
        have K6 := Lib.hid (Gr.trans K5.out g11); clear g11
        go_wp2_with fail
        refine (HAL.out _ K6.out).mono ?_
        rintro e w12 ⟨rfl, g12⟩
        have K7 := Lib.hid (Gr.trans K6.out g12); clear g12
        go_wp2_with fail
        go_ret
        exact ⟨rfl, K7.out⟩
      | true =>
        rw [hv] at hab hee hhe
        cases hnm : (n == m) with
        | false =>
          rw [hnm] at hee
          have hee : ((xs 0).toList == E2.toList) = false := hee
          go_wp2_with fail
          refine (HE.out _ GW.out).mono ?_
          rintro e w6 ⟨rfl, g6⟩
          have K1 := Lib.hid (Gr.trans GW.out g6); clear g6
          go_wp2_with fail
          refine (HEB.out _ K1.out).mono ?_
          rintro e w7 ⟨rfl, g7⟩
          have K2 := Lib.hid (Gr.trans K1.out g7); clear g7
          go_wp2_with fail
          refine (HHA.out _ K2.out).mono ?_
          rintro e w8 ⟨rfl, g8⟩
          have K3 := Lib.hid (Gr.trans K2.out g8); clear g8
          go_wp2_with fail
          refine (HHB.out _ K3.out).mono ?_
          rintro e w9 ⟨rfl, g9⟩
          have K4 := Lib.hid (Gr.trans K3.out g9); clear g9
          go_wp2_with fail
          refine (HHA.out _ K4.out).mono ?_
          rintro e w10 ⟨rfl, g10⟩
          have K5 := Lib.hid (Gr.trans K4.out g10); clear g10
          go_wp2_with fail
          refine (HKB.out _ K5.out).mono ?_
          rintro e w11 ⟨rfl, g11⟩
          have K6 := Lib.hid (Gr.trans K5.out g11); clear g11
          go_wp2_with fail
          refine (HAL.out _ K6.out).mono ?_
          rintro e w12 ⟨rfl, g12⟩
          have K7 := Lib.hid (Gr.trans K6.out g12); clear g12
          go_wp2_with fail
          go_ret
          exact ⟨rfl, K7.out⟩
        | true =>
          rw [hnm] at hee
          have hee : ((xs 0).toList == E2.toList) = true := hee
          go_wp2_with fail
          refine (HE.out _ GW.out).mono ?_
          rintro e w6 ⟨rfl, g6⟩
          have K1 := Lib.hid (Gr.trans GW.out g6); clear g6
          go_wp2_with fail
          refine (HEB.out _ K1.out).mono ?_
          rintro e w7 ⟨rfl, g7⟩
          have K2 := Lib.hid (Gr.trans K1.out g7); clear g7
          go_wp2_with fail
          refine (HHA.out _ K2.out).mono ?_
          rintro e w8 ⟨rfl, g8⟩
          have K3 := Lib.hid (Gr.trans K2.out g8); clear g8
          go_wp2_with fail
          refine (HHB.out _ K3.out).mono ?_
          rintro e w9 ⟨rfl, g9⟩
          have K4 := Lib.hid (Gr.trans K3.out g9); clear g9
          go_wp2_with fail
          refine (HHA.out _ K4.out).mono ?_
          rintro e w10 ⟨rfl, g10⟩
          have K5 := Lib.hid (Gr.trans K4.out g10); clear g10
          go_wp2_with fail
          refine (HKB.out _ K5.out).mono ?_
          rintro e w11 ⟨rfl, g11⟩
          have K6 := Lib.hid (Gr.trans K5.out g11); clear g11
          go_wp2_with fail
          refine (HAL.out _ K6.out).mono ?_
          rintro e w12 ⟨rfl, g12⟩
          have K7 := Lib.hid (Gr.trans K6.out g12); clear g12
          go_wp2_with fail
          go_ret
          exact ⟨rfl, K7.out⟩
end Go.Proofs.YtciokbponfilfaaDoor
