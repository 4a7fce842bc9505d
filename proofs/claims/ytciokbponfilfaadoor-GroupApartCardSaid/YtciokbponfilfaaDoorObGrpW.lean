/- Names of groups, as the program says. No condition. -/
import Derived.Test.YtciokbponfilfaaDoorObGrpL
import Derived.Test.YtciokbponfilfaaDoorObNameM
import Derived.Test.YtciokbponfilfaaDoorObDigP
import Derived.Outline
namespace Go.Proofs.YtciokbponfilfaaDoor
open Go.RowKit
set_option linter.unusedVariables false
set_option linter.unusedSimpArgs false
theorem joinR_cases (ps : List (List UInt8)) : (joinR ps).2 = 0 ∨ (joinR ps).2 ≠ 0 ∧ (joinR ps).1 = [] := by
  unfold joinR
  split
  · exact .inr ⟨by decide, rfl⟩
  · split
    · exact .inr ⟨by decide, rfl⟩
    · split
      · exact .inr ⟨by decide, rfl⟩
      · exact .inl rfl
theorem joined_any (A : Option Addr) (n c : Nat) (ps : List (List UInt8)) (w : World) (h : Ws w A n c ps) (hB : ∀ p ∈ ps, p.length ≤ 10000) (hT : U8 w) : Calls Tryd.prog 37 #[.slice A n c] w fun e w' => e = .returned (strc (joinR ps).1) ∧ Gr w w' := by
  have HJ := Lib.hid (join_any A n c ps w h hB hT)
  have hc := joinR_cases ps
  clear h hB hT
  generalize joinR ps = r at *
  obtain ⟨t, f⟩ := r
  obtain ⟨x, hx⟩ : ∃ x : ByteArray, strc t = .string x := ⟨_, rfl⟩
  have HJ : Hid (Calls Tryd.prog 7 #[.slice A n c] w fun e w' => e = .returned (.tuple #[.string x, .int .i64 (f : Int)]) ∧ Gr w w') := by show Calls _ _ _ _ _; rw [← hx]; exact HJ.out
  show Calls _ _ _ _ fun e w' => e = .returned (strc t) ∧ Gr w w'
  rcases hc with hf | ⟨hf, ht⟩
  · have t1 : ((f : Int) != 0) = false := by rw [bne_eq_false_iff_eq]; exact_mod_cast hf
    rw [hx]
    go_enter Tryd.func37, Tryd.ntmps37
    go_wp2_with fail
    refine HJ.out.mono ?_
    rintro e w1 ⟨rfl, g1⟩
    have G1 := Lib.hid g1; clear g1
    go_wp2_with fail
    go_ret
    exact ⟨rfl, G1.out⟩
  · have t1 : ((f : Int) != 0) = true := by rw [bne_iff_ne]; exact_mod_cast hf
    obtain rfl : t = [] := ht
    go_enter Tryd.func37, Tryd.ntmps37
    go_wp2_with fail
    refine HJ.out.mono ?_
    rintro e w1 ⟨rfl, g1⟩
    have G1 := Lib.hid g1; clear g1
    go_wp2_with fail
    go_ret
    exact ⟨rfl, G1.out⟩
theorem ws_new (w : World) (ps : List (List UInt8)) (hl : ps.length ≤ 1000) : Ws (w.alloc (.cells (ps.map strc).toArray 9)) (some ⟨w.heap.size, 0, none⟩) ps.length ps.length ps := by
  have ow := (Blk.new w 9 (ps.map strc).toArray).own (w0 := w) (size := 1) (n := ps.length) (Nat.le_refl _) (Gr.alloc w _) (by simp) (by simp only [maxLen]; omega)
  obtain ⟨A, c, e, sl⟩ := ow.slice
  injection e with e1 e2 e3
  subst e1 e3
  exact sl
theorem joined_new (w : World) (ps : List (List UInt8)) (hl : ps.length ≤ 1000) (hB : ∀ p ∈ ps, p.length ≤ 10000) (hT : U8 w) (t : ByteArray) (ht : strc (joinR ps).1 = .string t) :
    Calls Tryd.prog 37 #[.slice (some ⟨w.heap.size, 0, none⟩) ps.length ps.length] (w.alloc (.cells (ps.map strc).toArray 9)) fun e w' => e = .returned (.string t) ∧ Gr w w' := by
  have g0 : Gr w (w.alloc (.cells (ps.map strc).toArray 9)) := Gr.alloc w _
  refine (joined_any _ _ _ ps _ (ws_new w ps hl) hB (hT.mono g0)).mono ?_
  rintro e w' ⟨rfl, g⟩
  exact ⟨by rw [ht], g0.trans g⟩
theorem part_of (id : ByteArray) (hz : id.size ≤ 10000) : id.data.toList.length ≤ 10000 := by
  have : id.data.toList.length = id.size := Array.length_toList
  omega
theorem head_any (id : ByteArray) (w : World) (hz : id.size ≤ 10000) (hT : U8 w) : Calls Tryd.prog 22 #[.string id] w fun e w' => e = .returned (strc (joinR (headP id.data.toList)).1) ∧ Gr w w' := by
  obtain ⟨t, ht⟩ : ∃ t : ByteArray, strc (joinR (headP id.data.toList)).1 = .string t := ⟨_, rfl⟩
  have HJ : Hid (Calls Tryd.prog 37 #[.slice (some ⟨w.heap.size, 0, none⟩) 2 2] (w.alloc (.cells #[.string ⟨#[103]⟩, .string id] 9)) fun e w' => e = .returned (.string t) ∧ Gr w w') :=
    joined_new w (headP id.data.toList) (by simp [headP]) (fun p hp => by simp [headP] at hp; rcases hp with rfl | rfl; · simp
                                                                          · exact part_of id hz) hT t ht
  rw [ht]
  clear hT ht
  go_enter Tryd.func22, Tryd.ntmps22
  go_wp2_with fail
  refine HJ.out.mono ?_
  rintro e w1 ⟨rfl, g1⟩
  have G1 := Lib.hid g1; clear g1
  go_wp2_with fail
  go_ret
  exact ⟨rfl, G1.out⟩
theorem key_any (id : ByteArray) (w : World) (hz : id.size ≤ 10000) (hT : U8 w) : Calls Tryd.prog 23 #[.string id] w fun e w' => e = .returned (strc (joinR (keyP id.data.toList)).1) ∧ Gr w w' := by
  obtain ⟨t, ht⟩ : ∃ t : ByteArray, strc (joinR (keyP id.data.toList)).1 = .string t := ⟨_, rfl⟩
  have HJ : Hid (Calls Tryd.prog 37 #[.slice (some ⟨w.heap.size, 0, none⟩) 2 2] (w.alloc (.cells #[.string ⟨#[107]⟩, .string id] 9)) fun e w' => e = .returned (.string t) ∧ Gr w w') :=
    joined_new w (keyP id.data.toList) (by simp [keyP]) (fun p hp => by simp [keyP] at hp; rcases hp with rfl | rfl; · simp
                                                                        · exact part_of id hz) hT t ht
  rw [ht]
  clear hT ht
  go_enter Tryd.func23, Tryd.ntmps23
  go_wp2_with fail
  refine HJ.out.mono ?_
  rintro e w1 ⟨rfl, g1⟩
  have G1 := Lib.hid g1; clear g1
  go_wp2_with fail
  go_ret
  exact ⟨rfl, G1.out⟩
theorem stage_any (id : ByteArray) (w : World) (hz : id.size ≤ 10000) (hT : U8 w) : Calls Tryd.prog 19 #[.string id] w fun e w' => e = .returned (strc (joinR (stageP id.data.toList)).1) ∧ Gr w w' := by
  obtain ⟨t, ht⟩ : ∃ t : ByteArray, strc (joinR (stageP id.data.toList)).1 = .string t := ⟨_, rfl⟩
  have HJ : Hid (Calls Tryd.prog 37 #[.slice (some ⟨w.heap.size, 0, none⟩) 3 3] (w.alloc (.cells #[.string ⟨#[103]⟩, .string id, .string ⟨#[115, 116, 97, 103, 101]⟩] 9)) fun e w' => e = .returned (.string t) ∧ Gr w w') :=
    joined_new w (stageP id.data.toList) (by simp [stageP]) (fun p hp => by simp [stageP] at hp; rcases hp with rfl | rfl | rfl; · simp
                                                                            · exact part_of id hz
                                                                            · simp) hT t ht
  rw [ht]
  clear hT ht
  go_enter Tryd.func19, Tryd.ntmps19
  go_wp2_with fail
  refine HJ.out.mono ?_
  rintro e w1 ⟨rfl, g1⟩
  have G1 := Lib.hid g1; clear g1
  go_wp2_with fail
  go_ret
  exact ⟨rfl, G1.out⟩
theorem number_any (n most : Int) (w : World) (h0 : 0 ≤ n) (h1 : n ≤ most) (h2 : most ≤ 9223372036854775807) (ht : Pow10 w) : Calls Tryd.prog 38 #[.int .i64 n, .int .i64 most] w fun e w' => e = .returned (.string ⟨(printL n).toArray⟩) ∧ Gr w w' := by
  have HP : Hid (Calls Tryd.prog 53 #[.int .i64 n] w fun e w' => e = .returned (.string ⟨(printL n).toArray⟩) ∧ Gr w w') := print_any n w (by omega) (by omega) ht
  have t1 : decide (n < 0) = false := decide_eq_false (by omega)
  have t2 : decide (most < n) = false := decide_eq_false (by omega)
  clear ht
  generalize (⟨(printL n).toArray⟩ : ByteArray) = x at *
  go_enter Tryd.func38, Tryd.ntmps38
  go_wp2_with fail
  refine HP.out.mono ?_
  rintro e w1 ⟨rfl, g1⟩
  have G1 := Lib.hid g1; clear g1
  go_wp2_with fail
  go_ret
  exact ⟨rfl, G1.out⟩
theorem epoch_any (id : ByteArray) (n : Int) (w : World) (hz : id.size ≤ 10000) (h0 : 0 ≤ n) (h1 : n ≤ 99999999) (hT : U8 w) (hP : Pow10 w) : Calls Tryd.prog 17 #[.string id, .int .i64 n] w fun e w' => e = .returned (strc (joinR (epochP id.data.toList n)).1) ∧ Gr w w' := by
  obtain ⟨t, ht⟩ : ∃ t : ByteArray, strc (joinR (epochP id.data.toList n)).1 = .string t := ⟨_, rfl⟩
  obtain ⟨x, hx⟩ : ∃ x : ByteArray, x = ⟨(printL n).toArray⟩ := ⟨_, rfl⟩
  have HN : Hid (Calls Tryd.prog 38 #[.int .i64 n, .int .i64 99999999] w fun e w' => e = .returned (.string x) ∧ Gr w w') := by rw [hx]; exact number_any n 99999999 w h0 h1 (by omega) hP
  have HJ : Hid (∀ wr, Gr w wr → Calls Tryd.prog 37 #[.slice (some ⟨wr.heap.size, 0, none⟩) 4 4] (wr.alloc (.cells #[.string ⟨#[103]⟩, .string id, .string x, .string ⟨#[101]⟩] 9)) fun e w' => e = .returned (.string t) ∧ Gr wr w') := fun wr g => by
    rw [hx]
    exact joined_new wr (epochP id.data.toList n) (by simp [epochP]) (fun p hp => by
      simp [epochP] at hp
      rcases hp with rfl | rfl | rfl | rfl
      · simp
      · exact part_of id hz
      · have := (print_small n h0 h1).2.2; omega
      · simp) (hT.mono g) t ht
  rw [ht]
  clear hT ht hP hx
  go_enter Tryd.func17, Tryd.ntmps17
  go_wp2_with fail
  refine HN.out.mono ?_
  rintro e w1 ⟨rfl, g1⟩
  have G1 := Lib.hid g1; clear g1
  go_wp2_with fail
  refine (HJ.out _ G1.out).mono ?_
  rintro e w2 ⟨rfl, g2⟩
  have G2 := Lib.hid (Gr.trans G1.out g2); clear g2
  go_wp2_with fail
  go_ret
  exact ⟨rfl, G2.out⟩
theorem cat_s (l : List UInt8) : (⟨#[115]⟩ : ByteArray) ++ ⟨l.toArray⟩ = ⟨(115 :: l).toArray⟩ := by
  apply ByteArray.ext
  simp
theorem chain_any (id : ByteArray) (n k : Int) (w : World) (hz : id.size ≤ 10000) (h0 : 0 ≤ n) (h1 : n ≤ 99999999) (k0 : 0 ≤ k) (k1 : k ≤ 3) (hT : U8 w) (hP : Pow10 w) : Calls Tryd.prog 18 #[.string id, .int .i64 n, .int .i64 k] w fun e w' => e = .returned (strc (joinR (chainP id.data.toList n k)).1) ∧ Gr w w' := by
  obtain ⟨t, ht⟩ : ∃ t : ByteArray, strc (joinR (chainP id.data.toList n k)).1 = .string t := ⟨_, rfl⟩
  obtain ⟨x, hx⟩ : ∃ x : ByteArray, x = ⟨(printL n).toArray⟩ := ⟨_, rfl⟩
  obtain ⟨y, hy⟩ : ∃ y : ByteArray, y = ⟨(printL k).toArray⟩ := ⟨_, rfl⟩
  have HN : Hid (∀ wr, Gr w wr → Calls Tryd.prog 38 #[.int .i64 n, .int .i64 99999999] wr fun e w' => e = .returned (.string x) ∧ Gr wr w') := fun wr g => by rw [hx]; exact number_any n 99999999 wr h0 h1 (by omega) (hP.mono g)
  have HK : Hid (Calls Tryd.prog 38 #[.int .i64 k, .int .i64 3] w fun e w' => e = .returned (.string y) ∧ Gr w w') := by rw [hy]; exact number_any k 3 w k0 k1 (by omega) hP
  have hpk := (print_small k k0 (by omega)).2
  have HJ : Hid (∀ wr, Gr w wr → Calls Tryd.prog 37 #[.slice (some ⟨wr.heap.size, 0, none⟩) 4 4] (wr.alloc (.cells #[.string ⟨#[103]⟩, .string id, .string x, .string (⟨#[115]⟩ ++ y)] 9)) fun e w' => e = .returned (.string t) ∧ Gr wr w') := fun wr g => by
    rw [hx, hy, cat_s]
    exact joined_new wr (chainP id.data.toList n k) (by simp [chainP]) (fun p hp => by
      simp [chainP] at hp
      rcases hp with rfl | rfl | rfl | rfl
      · simp
      · exact part_of id hz
      · have := (print_small n h0 h1).2.2; omega
      · rw [List.length_cons]; omega) (hT.mono g) t ht
  have hys : y.size = (printL k).length := by rw [hy]; exact size_of' _
  have te : (y.toList == []) = false := by
    rw [hy, ByteArray.toList_eq]
    apply beq_eq_false_iff_ne.2
    intro e
    have := congrArg List.length e
    simp at this
    rw [this] at hpk
    simp at hpk
  have tc : ¬ 9223372036854775807 < 1 + y.size := by omega
  rw [ht]
  clear hT ht hP hx hy hpk hys
  go_enter Tryd.func18, Tryd.ntmps18
  go_wp2_with fail
  refine HK.out.mono ?_
  rintro e w1 ⟨rfl, g1⟩
  have G1 := Lib.hid g1; clear g1
  go_wp2_with fail
  refine (HN.out _ G1.out).mono ?_
  rintro e w2 ⟨rfl, g2⟩
  have G2 := Lib.hid (Gr.trans G1.out g2); clear g2
  go_wp2_with fail
  refine (HJ.out _ G2.out).mono ?_
  rintro e w3 ⟨rfl, g3⟩
  have G3 := Lib.hid (Gr.trans G2.out g3); clear g3
  go_wp2_with fail
  go_ret
  exact ⟨rfl, G3.out⟩
theorem print_2 : printL 2 = [50] := own_small 2 (by decide) (by decide)
theorem print_0 : printL 0 = [48] := own_small 0 (by decide) (by decide)
theorem chain_ex : (joinR (chainP [97] 2 0)).1 = [103, 46, 97, 46, 50, 46, 115, 48] := by
  unfold chainP
  rw [print_2, print_0]
  decide +kernel
theorem head_ex : (joinR (headP [65])).1 = [] := by decide +kernel
theorem alive35_any (w : World) (hT : U8 w) (hP : Pow10 w) : Calls Tryd.prog 16 #[] w fun e w' => e = .returned (.bool true) ∧ Gr w w' := by
  have HC : Hid (Calls Tryd.prog 18 #[.string ⟨#[97]⟩, .int .i64 2, .int .i64 0] w fun e w' => e = .returned (.string ⟨#[103, 46, 97, 46, 50, 46, 115, 48]⟩) ∧ Gr w w') := by
    have h := chain_any ⟨#[97]⟩ 2 0 w (by decide) (by decide) (by decide) (by decide) (by decide) hT hP
    rw [show (⟨#[97]⟩ : ByteArray).data.toList = [97] from rfl, chain_ex] at h
    exact h
  have HH : Hid (∀ wr, Gr w wr → Calls Tryd.prog 22 #[.string ⟨#[65]⟩] wr fun e w' => e = .returned (.string ⟨#[]⟩) ∧ Gr wr w') := fun wr g => by
    have h := head_any ⟨#[65]⟩ wr (by decide) (hT.mono g)
    rw [show (⟨#[65]⟩ : ByteArray).data.toList = [65] from rfl, head_ex] at h
    exact h
  clear hT hP
  go_enter Tryd.func16, Tryd.ntmps16
  go_wp2_with fail
  refine HC.out.mono ?_
  rintro e w1 ⟨rfl, g1⟩
  have G1 := Lib.hid g1; clear g1
  go_wp2_with fail
  refine (HH.out _ G1.out).mono ?_
  rintro e w2 ⟨rfl, g2⟩
  have G2 := Lib.hid (Gr.trans G1.out g2); clear g2
  go_wp2_with fail
  go_ret
  exact ⟨rfl, G2.out⟩
end Go.Proofs.YtciokbponfilfaaDoor
