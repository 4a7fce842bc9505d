/- Names: words, which names are below which, and the chapter's example. No condition. -/
import Derived.Test.YtciokbponfilfaaDoorObNameK
import Derived.Test.YtciokbponfilfaaDoorObInts
import Derived.Outline
namespace Go.Proofs.YtciokbponfilfaaDoor
open Go.RowKit
set_option linter.unusedVariables false
theorem takeW_same {a b : List (List UInt8)} {k : Nat} (ha : k < a.length) (hb : k < b.length) (h : a.take k = b.take k) (he : a[k] = b[k]) : a.take (k + 1) = b.take (k + 1) := by
  rw [List.take_succ_eq_append_getElem ha, List.take_succ_eq_append_getElem hb, h, he]
set_option maxHeartbeats 1000000 in
theorem words_any (A B : Option Addr) (n m c d : Nat) (a b : List (List UInt8)) (w : World) (ha : Ws w A n c a) (hb : Ws w B m d b) :
    Calls Tryd.prog 9 #[.slice A n c, .slice B m d] w fun e w' => e = .returned (.bool (a == b)) ∧ ∃ k, w' = w.drewN k := by
  have hla := ha.len
  have hlb := hb.len
  have ma := ha.max
  have mb := hb.max
  have ca := ha.cap
  have cb := hb.cap
  by_cases hnm : n = m
  · subst hnm
    have HA := Lib.hid ha; have HB := Lib.hid hb; clear ha hb
    have HLA := Lib.hid hla; have HLB := Lib.hid hlb; clear hla hlb
    have t1 : ((n : Int) != (n : Int)) = false := by simp
    go_enter Tryd.func9, Tryd.ntmps9
    go_wp2
    clear t1
    go_loopw [5] (fun i wr => ∃ k q : Nat, k ≤ n ∧ i = .int .i64 k ∧ wr = w.drewN q ∧ a.take k = b.take k) (fun i _ => n - (intOf i).toNat)
    case atStart => exact ⟨0, 0, Nat.zero_le _, rfl, rfl, rfl⟩
    case round =>
      obtain ⟨k, q, hk, rfl, rfl, hsame⟩ := hrel
      have HSM := Lib.hid hsame; clear hsame
      by_cases hlt : k < n
      · obtain ⟨b1, o1, rfl, hc1⟩ := Ws.addr HA.out (by omega)
        obtain ⟨b2, o2, rfl, hc2⟩ := Ws.addr HB.out (by omega)
        have hka : k < a.length := by rw [HLA.out]; exact hlt
        have hkb : k < b.length := by rw [HLB.out]; exact hlt
        have c1 : w.cell? ⟨b1, o1 + k, none⟩ = some _ := hc1 k hka
        have c2 : w.cell? ⟨b2, o2 + k, none⟩ = some _ := hc2 k hkb
        have HS1 := Lib.hid (fun he => takeW_same hka hkb HSM.out he)
        have HS2 : Hid (¬ a[k] = b[k] → (a == b) = false) := fun he => beq_eq_false_iff_ne.2 (by rintro rfl; exact he rfl)
        clear hc1 hc2
        generalize a[k] = x at *
        generalize b[k] = y at *
        obtain ⟨xs, hxs⟩ : ∃ xs : ByteArray, xs = ⟨x.toArray⟩ := ⟨_, rfl⟩
        obtain ⟨ys, hys⟩ : ∃ ys : ByteArray, ys = ⟨y.toArray⟩ := ⟨_, rfl⟩
        rw [← hxs] at c1
        rw [← hys] at c2
        have hxl : xs.toList = x := by rw [ByteArray.toList_eq, hxs]
        have hyl : ys.toList = y := by rw [ByteArray.toList_eq, hys]
        clear hxs hys
        by_cases he : x = y
        · have t1 : (xs.toList == ys.toList) = true := by rw [hxl, hyl, he]; simp
          have HE := Lib.hid (HS1.out he); clear he hxl hyl
          go_wp2
          go_quiet (fail)
          go_wp2
          refine ⟨⟨k + 1, _, by omega, by first | trivial | go_num, rfl, HE.out⟩, ?_⟩
          show n - ((k : Int) + 1).toNat < n - (k : Int).toNat
          omega
        · have t1 : (xs.toList == ys.toList) = false := by rw [hxl, hyl]; exact beq_eq_false_iff_ne.2 he
          have HE := Lib.hid (HS2.out he); clear he hxl hyl
          go_wp2
          go_quiet (fail)
          go_wp2
          go_ret
          exact ⟨ret_bool HE.out.symm, _, World.drewN_drewN _ _ _⟩
      · obtain rfl : k = n := by omega
        have HE : Hid ((a == b) = true) := by
          have h := HSM.out
          rw [List.take_of_length_le (by rw [HLA.out]; omega), List.take_of_length_le (by rw [HLB.out]; omega)] at h
          exact beq_iff_eq.2 h
        go_wp2
        go_ret
        exact ⟨ret_bool HE.out.symm, _, rfl⟩
  · have t1 : ((n : Int) != (m : Int)) = true := by rw [bne_iff_ne]; omega
    have HE : Hid ((a == b) = false) := by
      apply beq_eq_false_iff_ne.2
      rintro rfl
      omega
    clear ha hb
    go_enter Tryd.func9, Tryd.ntmps9
    go_wp2
    go_ret
    exact ⟨ret_bool HE.out.symm, 0, rfl⟩
def belowP (s t : List UInt8) : Bool := rightL s && rightL t && Lib.hasPrefix s (t ++ [46])
set_option maxHeartbeats 1000000 in
theorem below_any (s t : List UInt8) (w : World) (hs : s.length ≤ 100000) (ht : t.length ≤ 100000) (hT : U8 w) : Calls Tryd.prog 14 #[strc s, strc t] w fun e w' => e = .returned (.bool (belowP s t)) ∧ Gr w w' := by
  have HS : Hid (∀ wr, Gr w wr → Calls Tryd.prog 13 #[strc s] wr fun e w' => e = .returned (.bool (rightL s)) ∧ Gr wr w') := fun wr g => right_any s wr hs (hT.mono g)
  have HT : Hid (∀ wr, Gr w wr → Calls Tryd.prog 13 #[strc t] wr fun e w' => e = .returned (.bool (rightL t)) ∧ Gr wr w') := fun wr g => right_any t wr ht (hT.mono g)
  obtain ⟨b, hb⟩ : ∃ b, b = belowP s t := ⟨_, rfl⟩
  rw [← hb]
  have HB : Hid (b = (rightL s && rightL t && Lib.hasPrefix s (t ++ [46]))) := hb
  obtain ⟨sx, hsx⟩ : ∃ sx : ByteArray, sx = ⟨s.toArray⟩ := ⟨_, rfl⟩
  obtain ⟨tx, htx⟩ : ∃ tx : ByteArray, tx = ⟨t.toArray⟩ := ⟨_, rfl⟩
  have e1 : strc s = .string sx := by rw [hsx]; rfl
  have e2 : strc t = .string tx := by rw [htx]; rfl
  rw [e1] at HS ⊢
  rw [e2] at HT ⊢
  have HP : Hid (∀ wr, Calls Tryd.prog 34 #[.string sx, .string (tx ++ ⟨#[46]⟩)] wr fun e w' => e = .returned (.bool (Lib.hasPrefix s (t ++ [46]))) ∧ w' = wr) := fun wr => by
    have h := Tryd.strings_HasPrefix sx (tx ++ ⟨#[46]⟩) wr
    rw [hsx, htx] at h ⊢
    have e3 : ((⟨t.toArray⟩ : ByteArray) ++ ⟨#[46]⟩).data.toList = t ++ [46] := by simp
    rw [e3] at h
    exact h
  have htz : tx.size = t.length := by rw [htx]; exact size_of' t
  have hl1 : ¬ 9223372036854775807 < tx.size + 1 := by omega
  clear hb hsx htx e1 e2 htz hT
  cases hrs : rightL s with
  | false =>
    rw [hrs] at HS HB
    have HF : Hid (b = false) := HB.out
    clear hrs
    go_enter Tryd.func14, Tryd.ntmps14
    go_wp2_with fail
    refine (HS.out _ (Gr.refl _)).mono ?_
    rintro e w1 ⟨rfl, g1⟩
    have G1 := Lib.hid g1; clear g1
    go_wp2_with fail
    go_ret
    exact ⟨by rw [HF.out]; rfl, G1.out⟩
  | true =>
    rw [hrs] at HS HB
    clear hrs
    cases hrt : rightL t with
    | false =>
      rw [hrt] at HT HB
      have HF : Hid (b = false) := HB.out
      clear hrt
      go_enter Tryd.func14, Tryd.ntmps14
      go_wp2_with fail
      refine (HS.out _ (Gr.refl _)).mono ?_
      rintro e w1 ⟨rfl, g1⟩
      have G1 := Lib.hid g1; clear g1
      go_wp2_with fail
      refine (HT.out _ G1.out).mono ?_
      rintro e w2 ⟨rfl, g2⟩
      have G2 := Lib.hid (Gr.trans G1.out g2); clear g2
      go_wp2_with fail
      go_ret
      exact ⟨by rw [HF.out]; rfl, G2.out⟩
    | true =>
      rw [hrt] at HT HB
      have HF : Hid (b = Lib.hasPrefix s (t ++ [46])) := HB.out
      clear hrt
      go_enter Tryd.func14, Tryd.ntmps14
      go_wp2_with fail
      refine (HS.out _ (Gr.refl _)).mono ?_
      rintro e w1 ⟨rfl, g1⟩
      have G1 := Lib.hid g1; clear g1
      go_wp2_with fail
      refine (HT.out _ G1.out).mono ?_
      rintro e w2 ⟨rfl, g2⟩
      have G2 := Lib.hid (Gr.trans G1.out g2); clear g2
      go_wp2_with fail
      refine (HP.out _).mono ?_
      rintro e w3 ⟨rfl, rfl⟩
      go_wp2_with fail
      go_ret
      exact ⟨by rw [HF.out]; rfl, G2.out⟩
theorem joinR_ex : joinR [[97, 98], [51]] = ([97, 98, 46, 51], 0) := by decide +kernel
theorem below_ex : belowP [97, 98, 46, 51] [97, 98] = true := by decide +kernel
theorem right_ex : rightL [65, 98] = false := by decide +kernel
set_option maxHeartbeats 1000000 in
theorem alive03_any (w : World) (hT : U8 w) : Calls Tryd.prog 6 #[] w fun e w' => e = .returned (.bool true) ∧ Gr w w' := by
  have HT := Lib.hid hT; clear hT
  go_enter Tryd.func6, Tryd.ntmps6
  go_wp2_with fail
  have ow := (Blk.new w 9 #[strc [97, 98], strc [51]]).own (w0 := w) (size := 1) (n := 2) (Nat.le_refl _) (Gr.alloc w _) rfl (by decide)
  obtain ⟨A, c, e, sl⟩ := ow.slice
  injection e with e1 e2 e3
  subst e1 e3
  have hws : Ws (w.alloc (.cells #[strc [97, 98], strc [51]] 9)) (some ⟨w.heap.size, 0, none⟩) 2 2 [[97, 98], [51]] := sl
  have g0 : Gr w (w.alloc (.cells #[strc [97, 98], strc [51]] 9)) := Gr.alloc w _
  have HJ := join_any _ 2 2 [[97, 98], [51]] _ hws (by simp) (HT.out.mono g0)
  rw [joinR_ex] at HJ
  have HJJ : Hid (Calls Tryd.prog 7 #[.slice (some ⟨w.heap.size, 0, none⟩) 2 2] (w.alloc (.cells #[strc [97, 98], strc [51]] 9)) fun e w' => e = .returned (.tuple #[.string ⟨#[97, 98, 46, 51]⟩, .int .i64 0]) ∧ Gr w w') := HJ.mono fun e w' h => ⟨h.1, g0.trans h.2⟩
  have HBB : Hid (∀ wr, Gr w wr → Calls Tryd.prog 14 #[.string ⟨#[97, 98, 46, 51]⟩, .string ⟨#[97, 98]⟩] wr fun e w' => e = .returned (.bool true) ∧ Gr wr w') := fun wr g => by
    have h := below_any [97, 98, 46, 51] [97, 98] wr (by simp) (by simp) (HT.out.mono g)
    rw [below_ex] at h
    exact h
  have HRR : Hid (∀ wr, Gr w wr → Calls Tryd.prog 13 #[.string ⟨#[65, 98]⟩] wr fun e w' => e = .returned (.bool false) ∧ Gr wr w') := fun wr g => by
    have h := right_any [65, 98] wr (by simp) (HT.out.mono g)
    rw [right_ex] at h
    exact h
  clear HJ hws sl ow g0 e2
  refine HJJ.out.mono ?_
  rintro e w1 ⟨rfl, g1⟩
  have G1 := Lib.hid g1; clear g1
  go_wp2_with fail
  refine (HBB.out _ G1.out).mono ?_
  rintro e w2 ⟨rfl, g2⟩
  have G2 := Lib.hid (Gr.trans G1.out g2); clear g2
  go_wp2_with fail
  refine (HRR.out _ G2.out).mono ?_
  rintro e w3 ⟨rfl, g3⟩
  have G3 := Lib.hid (Gr.trans G2.out g3); clear g3
  go_wp2_with fail
  go_ret
  exact ⟨rfl, G3.out⟩
/-- Are the texts of a row all short? -/
theorem long_at {ps : List (List UInt8)} {k : Nat} (hk : k < ps.length) (h : ∀ p ∈ ps, p.length ≤ 100) : ps[k].length ≤ 100 := h _ (List.getElem_mem hk)
set_option maxRecDepth 100000 in
set_option maxHeartbeats 2000000 in
theorem nameJoins_walk (A : Option Addr) (n c : Nat) (ps : List (List UInt8)) (s : ByteArray) (w : World) (h : Ws w A n c ps) (hT : U8 w) (hM : MLen w) (hz : ∀ p ∈ ps, p.length ≤ 9223372036854775807) (hs : s.size ≤ 9223372036854775807) :
    Calls Tryd.prog 3 #[.slice A n c, .string s] w fun e w' => e = .returned (.bool true) ∧ Below w.heap.size w w' := by
  show Calls _ _ _ _ fun e w' => e = .returned (.bool true) ∧ Gr w w'
  have hmax := h.max
  have hcap := h.cap
  have HL := Lib.hid h.len
  have HH := Lib.hid h; have HT := Lib.hid hT; have HM := Lib.hid hM; have HZ := Lib.hid hz
  have HAL : Hid (∀ wr, Gr w wr → Calls Tryd.prog 6 #[] wr fun e w' => e = .returned (.bool true) ∧ Gr wr w') := fun wr g => alive03_any wr (hT.mono g)
  clear h hT hM hz
  by_cases h20 : 20 < n
  · have t1 : decide ((20 : Int) < (n : Int)) = true := decide_eq_true (by omega)
    go_enter Tryd.func3, Tryd.ntmps3
    go_wp2_with fail
    refine (HAL.out _ (Gr.refl w)).mono ?_
    rintro e w1 ⟨rfl, g1⟩
    have G1 := Lib.hid g1; clear g1
    go_wp2_with fail
    go_ret
    exact ⟨rfl, G1.out⟩
  have t1 : decide ((20 : Int) < (n : Int)) = false := decide_eq_false (by omega)
  by_cases h200 : 200 < s.size
  · have t2 : decide ((200 : Int) < (s.size : Int)) = true := decide_eq_true (by omega)
    go_enter Tryd.func3, Tryd.ntmps3
    go_wp2_with fail
    refine (HAL.out _ (Gr.refl w)).mono ?_
    rintro e w1 ⟨rfl, g1⟩
    have G1 := Lib.hid g1; clear g1
    go_wp2_with fail
    go_ret
    exact ⟨rfl, G1.out⟩
  have t2 : decide ((200 : Int) < (s.size : Int)) = false := decide_eq_false (by omega)
  obtain ⟨l, hl⟩ : ∃ l, l = s.data.toList := ⟨_, rfl⟩
  have hsl : s = ⟨l.toArray⟩ := by rw [hl]
  have hll : l.length ≤ 200 := by rw [hl]; show s.data.toList.length ≤ 200; have : s.data.toList.length = s.size := Array.length_toList; omega
  have HSL := Lib.hid hsl
  clear hl hsl
  go_enter Tryd.func3, Tryd.ntmps3
  go_wp2_with fail
  go_loopw [5] (fun i wr => ∃ k : Nat, k ≤ n ∧ i = .int .i64 k ∧ wr = w ∧ ∀ p ∈ ps.take k, p.length ≤ 100) (fun i _ => n - (intOf i).toNat)
  case atStart => exact ⟨0, Nat.zero_le _, rfl, rfl, by simp⟩
  case round =>
    obtain ⟨k, hk, rfl, rfl, hall⟩ := hrel
    have HA := Lib.hid hall; clear hall
    by_cases hlt : k < n
    · have hkl : k < ps.length := by rw [HL.out]; exact hlt
      obtain ⟨b, o, rfl, hc⟩ := Ws.addr HH.out (by omega)
      have c1 := hc k hkl
      have hzk := HZ.out _ (List.getElem_mem hkl)
      have HTK : Hid (ps[k].length ≤ 100 → ∀ p ∈ ps.take (k + 1), p.length ≤ 100) := fun h p hp => by
        rw [List.take_succ_eq_append_getElem hkl, List.mem_append, List.mem_singleton] at hp
        rcases hp with hp | rfl
        · exact HA.out p hp
        · exact h
      clear hc
      generalize ps[k] = x at *
      obtain ⟨xs, hxs⟩ : ∃ xs : ByteArray, xs = ⟨x.toArray⟩ := ⟨_, rfl⟩
      have hxz : xs.size = x.length := by rw [hxs]; exact size_of' x
      rw [← hxs] at c1
      clear hxs
      by_cases h100 : 100 < xs.size
      · have t3 : decide ((100 : Int) < (xs.size : Int)) = true := decide_eq_true (by omega)
        clear hxz
        go_wp2_with fail
        refine (HAL.out _ (Gr.refl _)).mono ?_
        rintro e w1 ⟨rfl, g1⟩
        have G1 := Lib.hid g1; clear g1
        go_wp2_with fail
        go_ret
        exact ⟨rfl, G1.out⟩
      · have t3 : decide ((100 : Int) < (xs.size : Int)) = false := decide_eq_false (by omega)
        have HK2 := Lib.hid (HTK.out (by omega))
        clear hxz
        go_wp2_with fail
        refine ⟨⟨k + 1, by omega, by first | trivial | go_num, by first | trivial | rfl, HK2.out⟩, ?_⟩
        show n - ((k : Int) + 1).toNat < n - (k : Int).toNat
        omega
    · obtain rfl : k = n := by omega
      have hall : ∀ p ∈ ps, p.length ≤ 100 := by have := HA.out; rwa [List.take_of_length_le (by rw [HL.out]; omega)] at this
      have HJ : Hid (Calls Tryd.prog 7 #[.slice A k c] wr (RetJ wr (joinR ps))) := join_any A k c ps wr HH.out (fun p hp => by have := hall p hp; omega) HT.out
      have HRJ : Hid (∀ w', Gr wr w' → Calls Tryd.prog 8 #[.slice A k c] w' (RetJ w' (joinR ps))) := fun w' g => refJoin_any A k c ps w' (HH.out.mono g) (fun p hp => by have := hall p hp; omega)
      have HSP : Hid (∀ w', Gr wr w' → Calls Tryd.prog 10 #[.string s] w' (RetWs w' (splitL l))) := fun w' g => by rw [HSL.out]; exact split_any l w' (by omega) (HT.out.mono g) (HM.out.mono g)
      have HRS : Hid (∀ w', Calls Tryd.prog 11 #[.string s] w' (RetWs w' (splitL l))) := fun w' => by rw [HSL.out]; exact refSplit_any l w' (by omega)
      generalize joinR ps = r at *
      obtain ⟨rt, rf⟩ := r
      obtain ⟨xs, hxs⟩ : ∃ xs : ByteArray, xs = ⟨rt.toArray⟩ := ⟨_, rfl⟩
      have e1 : strc rt = .string xs := by rw [hxs]; rfl
      have HJ : Hid (Calls Tryd.prog 7 #[.slice A k c] wr fun e w' => e = .returned (.tuple #[.string xs, .int .i64 (rf : Int)]) ∧ Gr wr w') := by show Calls _ _ _ _ _; rw [← e1]; exact HJ.out
      have HRJ : Hid (∀ w', Gr wr w' → Calls Tryd.prog 8 #[.slice A k c] w' fun e w'' => e = .returned (.tuple #[.string xs, .int .i64 (rf : Int)]) ∧ Gr w' w'') := by show ∀ w', _; rw [← e1]; exact HRJ.out
      clear e1 hxs hall
      go_wp2_with fail
      refine HJ.out.mono ?_
      rintro e w1 ⟨rfl, g1⟩
      have G1 := Lib.hid g1; clear g1
      go_wp2_with fail
      refine (HRJ.out _ G1.out).mono ?_
      rintro e w2 ⟨rfl, g2⟩
      have G2 := Lib.hid (Gr.trans G1.out g2); clear g2
      go_wp2_with fail
      refine (HSP.out _ G2.out).mono ?_
      rintro e w3 ⟨v3, rfl, o3⟩
      obtain ⟨A3, c3, rfl, s3⟩ := o3.slice
      have G3 := Lib.hid (Gr.trans G2.out o3.below)
      have S3 := Lib.hid s3
      clear o3 s3
      go_wp2_with fail
      refine (HRS.out _).mono ?_
      rintro e w4 ⟨v4, rfl, o4⟩
      obtain ⟨A4, c4, rfl, s4⟩ := o4.slice
      have HWD := Lib.hid (words_any A3 A4 _ _ c3 c4 (splitL l) (splitL l) w4 (S3.out.mono o4.below) s4)
      have G4 := Lib.hid (Gr.trans G3.out o4.below)
      clear o4 s4
      go_wp2_with fail
      refine HWD.out.mono ?_
      rintro e w5 ⟨rfl, q5, rfl⟩
      have G5 : Hid (Gr wr (w4.drewN q5)) := belowN G4.out q5
      have tb : (splitL l == splitL l) = true := by simp
      go_wp2_with fail
      refine (HAL.out _ G5.out).mono ?_
      rintro e w6 ⟨rfl, g6⟩
      have G6 := Lib.hid (Gr.trans G5.out g6); clear g6
      go_wp2_with fail
      go_ret
      exact ⟨rfl, G6.out⟩
end Go.Proofs.YtciokbponfilfaaDoor
