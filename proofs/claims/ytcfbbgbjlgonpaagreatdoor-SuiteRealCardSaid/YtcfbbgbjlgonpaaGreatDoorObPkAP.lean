/- Own texts of this claim, one behind the other. No condition. -/
import Derived.Test.YtcfbbgbjlgonpaaGreatDoorObPkAN
import Derived.Test.YtcfbbgbjlgonpaaGreatDoorObPkAO
import Derived.Deep.MidRow
import Derived.Laws.CopyRow

/- AES: column, Mix. No condition. -/
namespace Go.Proofs.YtcfbbgbjlgonpaaGreatDoor
open Go.RowKit
set_option linter.unusedVariables false
set_option linter.unusedSimpArgs false
theorem By.range {w : World} {g : Nat} {t : TypeId} {l : List UInt8} (h : By w g t l) (o n : Nat) : w.rangeAt g o (((l.drop o).take n).map u8c) := fun j v hv => by
  rw [Blk.cell h]
  rw [List.getElem?_map, List.getElem?_take] at hv
  rw [List.getElem?_map]
  split at hv
  · rwa [List.getElem?_drop] at hv
  · simp at hv
theorem run_toArr (A : Option Addr) (c : Nat) (w : World) : (Instr.arrayAt 190 (.slice A 4 c)).run Tryz.prog w = .ok (.pointer A) w := by
  unfold Instr.arrayAt
  simp only [Sem.run_bind, run_underlying Tryz.underlying190, Result.andThen_ok]
  rfl
theorem run_arr4 (g : Nat) (w : World) : (Instr.sliceAt 190 (.pointer (some ⟨g, 0, none⟩)) none none none).run Tryz.prog w = .ok (.slice (some ⟨g, 0, none⟩) 4 4) w := by kernel_rfl
/-- Four bytes, in an array that the call has made. -/
def Ret4 (w : World) (l : List UInt8) (e : Ending) (w' : World) : Prop := ∃ g, e = .returned (.slice (some ⟨g, 0, none⟩) 4 4) ∧ By w' g 190 l ∧ w.heap.size ≤ g ∧ Gr w w'
set_option maxRecDepth 100000 in
set_option maxHeartbeats 1000000 in
theorem aesColumn_any (b o c : Nat) (l : List UInt8) (hl : l.length = 4) (w : World) (hr : w.rangeAt b o (l.map u8c)) :
    Calls Tryz.prog 184 #[.slice (some ⟨b, o, none⟩) 4 c] w (Ret4 w (colL l)) := by
  have hx := run_toArr (some ⟨b, o, none⟩) c w
  have HS : Hid ((Tryz.prog.info? 190).map (·.size) = some (l.map u8c).length) := by
    show (Tryz.prog.info? 190).map (·.size) = some (l.map u8c).length
    rw [List.length_map, hl]; kernel_rfl
  have HR := Lib.hid hr; have HC := Lib.hid (gfColumn_any l hl w)
  clear hr hl
  go_enter Tryz.func184, Tryz.ntmps184
  go_wp2_with (first
    | (refine wpList_load_mid rfl 190 (.tmp 5) rfl b o rfl (l.map u8c) _ HR.out Tryz.underlying190 rfl HS.out ?_)
    | (go_at_call 200; refine HC.out.mono ?_; rintro e w1 ⟨rfl, g1⟩; have G1 := Lib.hid g1; have hy := run_arr4 w1.heap.size; clear g1; unfold arr)
    | (refine wpList_store_row rfl 190 (.tmp 3) (.tmp 7) rfl w1.heap.size ((colL l).map u8c).toArray rfl rfl 190 _ (heap_alloc_new w1 _) (size4 _ (colL_len l)) (by rw [arr_size, colL_len]; rfl) (arr_one _) ?_))
  go_ret
  have hz : By (w1.alloc (.cells #[.int .u8 0, .int .u8 0, .int .u8 0, .int .u8 0] 190)) w1.heap.size 190 [0, 0, 0, 0] := heap_alloc_new w1 _
  exact ⟨w1.heap.size, rfl, hz.row, G1.out.size, byRow_below (G1.out.trans (Gr.alloc _ _)) G1.out.size _⟩
/-! ### Mix -/
theorem wp_copy_row {P : Program} {o : Oper} {a : Act} {w : World} {K : Act → World → Prop} {Q : Exit → Act → World → Prop} (d s : Operand) (dT sT : TypeId)
    (ho : o.op = .call { callee := .builtin .copy, args := #[d, s], argTypes := #[dT, sT] }) (elem : TypeId) (hu : P.underlying dT = some (.slice elem)) (hsz : (P.info? elem).map (·.size) = some 1)
    (g off dLen dCap : Nat) (ad : Addr) (sLen sCap : Nat) (hd : a.eval d = .slice (some ⟨g, off, none⟩) dLen dCap) (hs : a.eval s = .slice (some ad) sLen sCap)
    (cur : Array Value) (t : TypeId) (hg : w.heap[g]? = some (.cells cur t (0, 0))) (cs : List Value) (hn : cs.length = Nat.min sLen dLen)
    (hsrc : ∀ j v, cs[j]? = some v → w.cell? (ad.add j) = some v) (hfit : off + cs.length ≤ cur.size) (h1 : ∀ v ∈ cs, v.oneCell' = true)
    (new : Array Value) (hnew : (cur.toList.take off ++ cs ++ cur.toList.drop (off + cs.length)).toArray = new)
    (h : K (a.put o.dst (goInt cs.length)) (w.setRow g new)) : o.wp P a w K Q := by
  have hrun := run_copy_row (P := P) w dT sT o.type elem g off dLen dCap ad sLen sCap cur t cs hu hsz hg hn hsrc hfit h1
  rw [hnew] at hrun
  unfold Oper.wp
  simp [execOp, ho, resolve, invoke, builtin, hd, hs, hrun, Result.andThen]
  exact h
/-- Bytes are copied out of an array into another one. -/
theorem By.spliced {w : World} {g : Nat} {t : TypeId} {l m : List UInt8} (h : By w g t l) (o : Nat) : (((l.map u8c).toArray.toList.take o ++ m.map u8c ++ (l.map u8c).toArray.toList.drop (o + (m.map u8c).length)).toArray) = ((l.take o ++ m ++ l.drop (o + m.length)).map u8c).toArray := by
  simp [List.map_append, List.map_take, List.map_drop]
theorem By.src {w : World} {g : Nat} {t : TypeId} {l : List UInt8} (h : By w g t l) : ∀ j v, (l.map u8c)[j]? = some v → w.cell? ((⟨g, 0, none⟩ : Addr).add j) = some v := fun j v hv => by
  rw [Addr.add_mid, Nat.zero_add, Blk.cell h]
  exact hv
theorem bytes_one (l : List UInt8) : ∀ v ∈ l.map u8c, v.oneCell' = true := fun v hv => by
  obtain ⟨y, _, rfl⟩ := List.mem_map.1 hv
  rfl
def mixAt (l : List UInt8) (d : Nat) : List UInt8 := l.take d ++ colL ((l.drop d).take 4) ++ l.drop (d + 4)
def mixTo (l : List UInt8) : Nat → List UInt8
  | 0 => l
  | k + 1 => mixAt (mixTo l k) (4 * k)
theorem mixAt_len {l : List UInt8} {d : Nat} (hl : l.length = 16) (hd : d + 4 ≤ 16) : (mixAt l d).length = 16 := by simp [mixAt, colL_len, hl]; omega
theorem mixTo_len {l : List UInt8} (hl : l.length = 16) : ∀ k, k ≤ 4 → (mixTo l k).length = 16
  | 0, _ => hl
  | k + 1, h => mixAt_len (mixTo_len hl k (by omega)) (by omega)
def amixL (l : List UInt8) : List UInt8 := mixTo l 4
theorem amixL_len {l : List UInt8} (hl : l.length = 16) : (amixL l).length = 16 := mixTo_len hl 4 (Nat.le_refl _)
theorem run_part16 (h d : Nat) (hd : d = 0 ∨ d = 4 ∨ d = 8 ∨ d = 12) (w : World) : (Instr.sliceAt 151 (.pointer (some ⟨h, 0, none⟩)) (some (.int .i64 (d : Int))) (some (.int .i64 ((d : Int) + 4))) none).run Tryz.prog w = .ok (.slice (some ⟨h, d, none⟩) 4 (16 - d)) w := by
  rcases hd with rfl | rfl | rfl | rfl
  all_goals kernel_rfl
set_option maxRecDepth 100000 in
set_option maxHeartbeats 1000000 in
theorem aesMix_any (l : List UInt8) (hl : l.length = 16) (w : World) : Calls Tryz.prog 163 #[arr l] w fun e w' => e = .returned (arr (amixL l)) ∧ Gr w w' := by
  unfold arr
  obtain ⟨W, hW⟩ : ∃ W, W = two16 w l := ⟨_, rfl⟩
  have hG := two16_gr w l; have hA := two16_a w l; have hB := two16_b w l
  rw [← hW] at hG hA hB
  unfold two16 at hW
  have HSL := Lib.hid (amixL_len hl)
  have HA := Lib.hid hA; have HB := Lib.hid hB; have HG := Lib.hid hG; have HW := Lib.hid hW; have HL := Lib.hid hl
  clear hA hB hG hW hl
  go_enter Tryz.func163, Tryz.ntmps163
  go_upto_region 1 with fail
  rw [← HW.out]
  obtain ⟨h, hh⟩ : ∃ h, h = w.heap.size := ⟨_, rfl⟩
  rw [← hh] at HA HB ⊢
  have HH := Lib.hid hh; clear hh
  go_wp2_with fail
  go_loopw [3] (fun i wr => ∃ k d : Nat, k ≤ 4 ∧ d = 4 * k ∧ i = .int .i64 (d : Int) ∧ Gr w wr ∧ By wr h 151 (mixTo l k) ∧ By wr (h + 1) 151 (List.replicate 16 0)) (fun i _ => 16 - (Go.RowKit.intOf i).toNat)
  case atStart => exact ⟨0, 0, Nat.zero_le _, rfl, rfl, HG.out, HA.out, HB.out⟩
  case round =>
    obtain ⟨k, d, hk, hd, rfl, g, ha, hb⟩ := hrel
    have GR := Lib.hid g; have HA1 := Lib.hid ha; have HB1 := Lib.hid hb
    have p0 : (0 : Int) ≤ d := by omega
    by_cases hlt : k < 4
    · have t0 : decide ((d : Int) < 16) = true := decide_eq_true (by omega)
      have hs := run_part16 h d (by omega)
      have HM := Lib.hid (mixTo_len HL.out k (by omega))
      have HC : Hid (∀ W, Gr wr W → Calls Tryz.prog 184 #[.slice (some ⟨h, d, none⟩) 4 (16 - d)] W (Ret4 W (colL (((mixTo l k).drop d).take 4)))) := fun W hW => aesColumn_any h d (16 - d) _ (by have := HM.out; simp; omega) W (By.range (show By W h _ _ from hW.blk ha) d 4)
      have HD := Lib.hid hd
      have hwr : IntKind.i64.wrap ((d : Int) + 4) = (d : Int) + 4 := IntWalk.i64_in _ (by omega)
      have HK := Lib.hid hk; have HLT := Lib.hid hlt
      clear g ha hb hd hk hlt
      go_upto_region 4 with fail
      refine wp_region_grow (by kernel_rfl) [0, 0, 2, 7, 0, 0, 32, 112, 240, 511] [.p 0, .p 1, .p 2, .p 3, .p 4, .p 5, .p 6, .p 7, .c 8, .s 9] (by kernel_rfl) (trivial) ?_
      refine wpG_pe rfl rfl ?_
      apply Exists.intro
      refine ⟨fun wq => ?_, ?_⟩
      · unfold plainAt
        go_simp
        first | exact rfl | exact ⟨rfl, rfl⟩
      go_simp
      refine wpG_pe rfl rfl ?_
      apply Exists.intro
      refine ⟨fun wq => ?_, ?_⟩
      · unfold plainAt
        go_simp
        first | exact rfl | exact ⟨rfl, rfl⟩
      go_simp
      refine wpG_pe rfl rfl ?_
      apply Exists.intro
      refine ⟨fun wq => ?_, ?_⟩
      · unfold plainAt
        go_simp
        first | exact rfl | exact ⟨rfl, rfl⟩
      go_simp
      refine wpG_pe rfl rfl ?_
      apply Exists.intro
      refine ⟨fun wq => ?_, ?_⟩
      · unfold plainAt
        go_simp
        first | exact rfl | exact ⟨rfl, rfl⟩
      go_simp
      refine wpG_pe rfl rfl ?_
      apply Exists.intro
      refine ⟨fun wq => ?_, ?_⟩
      · unfold plainAt
        go_simp
        first | exact rfl | exact ⟨rfl, rfl⟩
      go_simp
      refine wpG_pe rfl rfl ?_
      apply Exists.intro
      refine ⟨fun wq => ?_, ?_⟩
      · unfold plainAt
        go_simp
        first | exact rfl | exact ⟨rfl, rfl⟩
      go_simp
      refine wpG_pe rfl rfl ?_
      apply Exists.intro
      refine ⟨fun wq => ?_, ?_⟩
      · unfold plainAt
        go_simp
        first | exact rfl | exact ⟨rfl, rfl⟩
      go_simp
      refine wpG_pe rfl rfl ?_
      apply Exists.intro
      refine ⟨fun wq => ?_, ?_⟩
      · unfold plainAt
        go_simp
        first | exact rfl | exact ⟨rfl, rfl⟩
      go_simp
      refine wpG_c rfl rfl ?_
      intro w5 g5 K hK
      go_simp
      go_at_call 184
      refine (HC.out w5 ((Gr.drew _).trans g5)).mono ?_
      rintro e wn ⟨gc, rfl, bc, hge, g6⟩
      refine hK _ _ g6 ?_; have G6 := Lib.hid ((((Gr.drew wr).trans g5).trans g6)); have BC := Lib.hid bc; have HGE := Lib.hid hge; clear g5 g6 hK bc hge
      go_simp
      refine wpG_s rfl rfl ?_
      intro w7 g7 K hK
      have HA7 : Hid (By w7 h 151 (mixTo l k)) := (G6.out.trans g7).blk HA1.out
      have HC7 : Hid (By w7 gc 190 (colL (((mixTo l k).drop d).take 4))) := g7.blk BC.out
      refine wp_copy_row (.tmp 11) (.tmp 16) 28 28 rfl 5 Tryz.underlying28 (by kernel_rfl) h d 4 (16 - d) ⟨gc, 0, none⟩ 4 4 rfl rfl _ 151 HA7.out _ (by rw [List.length_map, colL_len]; rfl) HC7.out.src (by rw [List.length_map, colL_len, arr_size, HM.out]; have := HD.out; have := HLT.out; omega) (bytes_one _) ((mixTo l (k + 1)).map u8c).toArray (by rw [HA7.out.spliced d, colL_len, HD.out]; rfl) ?_
      refine hK _ _ ?_
      clear hK
      obtain ⟨W7, hW7⟩ : ∃ W7, W7 = w7.setRow h ((mixTo l (k + 1)).map u8c).toArray := ⟨_, rfl⟩
      have HA8 : Hid (By W7 h 151 (mixTo l (k + 1))) := by rw [hW7]; exact HA7.out.row
      have HB8 : Hid (By W7 (h + 1) 151 (List.replicate 16 0)) := by rw [hW7]; exact (setRow_other w7 h (h + 1) _ (by omega)).trans ((G6.out.trans g7).blk HB1.out)
      have HG8 : Hid (Gr w W7) := by rw [hW7]; exact byRow_below (GR.out.trans (G6.out.trans g7)) (by rw [HH.out]; exact Nat.le_refl _) _
      rw [← hW7]
      clear hW7
      go_simp
      refine wpG_nil ?_
      intro w9 g9
      have HA9 : Hid (By w9 h 151 (mixTo l (k + 1))) := g9.blk HA8.out
      have HB9 : Hid (By w9 (h + 1) 151 (List.replicate 16 0)) := g9.blk HB8.out
      have HG9 : Hid (Gr w w9) := HG8.out.trans g9
      clear g9 g7
      go_wp2_with fail
      go_roundw
      case rel => exact ⟨k + 1, d + 4, by have := HLT.out; omega, by have := HD.out; omega, by go_num, HG9.out, HA9.out, HB9.out⟩
      case measure => have := HD.out; have := HLT.out; simp [Go.RowKit.intOf]; omega
    · obtain rfl : k = 4 := by omega
      subst hd
      have HA2 : Hid (By wr h 151 (amixL l)) := ha
      clear g ha hb HA1
      go_wp2_with (first
        | (refine wpList_load_row rfl 151 (.tmp 1) rfl h rfl 151 _ (0, 0) _ HA2.out Tryz.underlying151 rfl (size16 _ HSL.out) ?_)
        | (refine wpList_store_row rfl 151 (.tmp 2) (.tmp 18) rfl (h + 1) ((amixL l).map u8c).toArray rfl rfl 151 _ HB1.out (size16 _ HSL.out) (by rw [arr_size, arr_size, HSL.out]; rfl) (arr_one _) ?_))
      exact bodyPost_ret (v := arr (amixL l)) (results_cell_row Tryz.results163 _ _ (h + 1) 151 _ (0, 0) _ rfl HB1.out.row Tryz.underlying151 rfl (size16 _ HSL.out)) rfl ⟨rfl, byRow_below GR.out (by rw [HH.out]; exact Nat.le_succ _) _⟩
end Go.Proofs.YtcfbbgbjlgonpaaGreatDoor

/- AES: a word of the schedule, turned. No condition. -/
namespace Go.Proofs.YtcfbbgbjlgonpaaGreatDoor
open Go.RowKit
set_option linter.unusedVariables false
set_option linter.unusedSimpArgs false
def rot4 (x : List UInt8) : List UInt8 := [gB x 1, gB x 2, gB x 3, gB x 0]
def turnL (x : List UInt8) (i : Nat) : List UInt8 :=
  if i % 4 ≠ 0 then x else if i % 8 = 0 then ((rot4 x).map boxB).set 0 (boxB (gB x 1) ^^^ powB 2 (i / 8 - 1)) else x.map boxB
theorem turnL_len {x : List UInt8} (i : Nat) (hx : x.length = 4) : (turnL x i).length = 4 := by
  unfold turnL
  split
  · exact hx
  · split
    · simp [rot4]
    · simp [hx]
/-- The blocks that turned begins with. -/
def two4 (w : World) (l : List UInt8) : World := (w.alloc (.cells (l.map u8c).toArray 190)).alloc (.cells #[.int .u8 0, .int .u8 0, .int .u8 0, .int .u8 0] 190)
theorem two4_gr (w : World) (l : List UInt8) : Gr w (two4 w l) := (Gr.alloc _ _).trans (Gr.alloc _ _)
theorem two4_a (w : World) (l : List UInt8) : By (two4 w l) w.heap.size 190 l := (Gr.alloc _ _).blk (By.new w _ l)
theorem two4_b (w : World) (l : List UInt8) : By (two4 w l) (w.heap.size + 1) 190 (List.replicate 4 0) := heap_alloc2_new w _ _
set_option maxRecDepth 100000 in
set_option maxHeartbeats 2000000 in
theorem aesTurned_any (l : List UInt8) (i : Nat) (hl : l.length = 4) (hi1 : 8 ≤ i) (hi2 : i < 60) (w : World) : Calls Tryz.prog 183 #[arr l, .int .i64 (i : Int)] w fun e w' => e = .returned (arr (turnL l i)) ∧ Gr w w' := by
  unfold arr
  obtain ⟨W, hW⟩ : ∃ W, W = two4 w l := ⟨_, rfl⟩
  have hG := two4_gr w l; have hA := two4_a w l; have hB := two4_b w l
  rw [← hW] at hG hA hB
  unfold two4 at hW
  have HA := Lib.hid hA; have HB := Lib.hid hB; have HG := Lib.hid hG; have HW := Lib.hid hW; have HL := Lib.hid hl
  have p0i : (0 : Int) ≤ i := by omega
  have HTL := Lib.hid (turnL_len i hl)
  clear hA hB hG hW hl
  by_cases h4 : i % 4 = 0
  · by_cases h8 : i % 8 = 0
    · have t1 : (((i : Int) % 8) == 0) = true := by rw [beq_iff_eq]; omega
      have t2 : (((i : Int) % 4) != 0) = false := by rw [bne_eq_false_iff_eq]; omega
      have HT : Hid (turnL l i = ((rot4 l).map boxB).set 0 (boxB (gB l 1) ^^^ powB 2 (i / 8 - 1))) := by show turnL l i = _; unfold turnL; rw [if_neg (by omega), if_pos h8]
      have c0 := HA.out.at (i := 0) (by rw [HL.out]; decide); have c1 := HA.out.at (i := 1) (by rw [HL.out]; decide); have c2 := HA.out.at (i := 2) (by rw [HL.out]; decide); have c3 := HA.out.at (i := 3) (by rw [HL.out]; decide)
      go_enter Tryz.func183, Tryz.ntmps183
      go_upto_region 1 with fail
      rw [← HW.out]
      obtain ⟨h, hh⟩ : ∃ h, h = w.heap.size := ⟨_, rfl⟩
      rw [← hh] at HA HB c0 c1 c2 c3 ⊢
      have HH := Lib.hid hh; clear hh
      go_wp2_with (first
        | (refine wpList_store_row rfl 190 (.tmp 2) (.tmp 18) rfl h ((rot4 l).map u8c).toArray rfl rfl 190 _ HA.out (size4 _ rfl) (by rw [arr_size, arr_size, HL.out]; rfl) (arr_one _) ?_)
        | (refine wpList_load_row rfl 190 (.tmp 2) rfl h rfl 190 _ (0, 0) _ (By.row (m := rot4 l) HA.out) Tryz.underlying190 rfl (size4 _ rfl) ?_))
      obtain ⟨W1, hW1⟩ : ∃ W1, W1 = W.setRow h ((rot4 l).map u8c).toArray := ⟨_, rfl⟩
      have HA1' : Hid (By W1 h 190 (rot4 l)) := by rw [hW1]; exact By.row HA.out
      have HB1' : Hid (By W1 (h + 1) 190 (List.replicate 4 0)) := by rw [hW1]; exact (setRow_other W h (h + 1) _ (by omega)).trans HB.out
      have HG1' : Hid (Gr w W1) := by rw [hW1]; exact byRow_below HG.out (by rw [HH.out]; exact Nat.le_refl _) _
      have HR4 : Hid ((rot4 l).length = 4) := rfl
      have HX0 : Hid (gB ((rot4 l).map boxB) 0 = boxB (gB l 1)) := by show gB ((rot4 l).map boxB) 0 = _; rw [gB_map _ _ _ (by rw [HR4.out]; decide)]; rfl
      rw [← hW1]
      clear hW1 c0 c1 c2 c3
      obtain ⟨X, hX⟩ : ∃ X, X = rot4 l := ⟨_, rfl⟩
      rw [← hX] at HA1' HR4 HX0 HT ⊢
      clear hX
      go_loopw [24] (fun j wr => ∃ k : Nat, k ≤ 4 ∧ j = .int .i64 (k : Int) ∧ Gr w wr ∧ By wr h 190 (mixB (X) ((X).map boxB) k) ∧ By wr (h + 1) 190 (List.replicate 4 0)) (fun j _ => 4 - (Go.RowKit.intOf j).toNat)
      case atStart => exact ⟨0, Nat.zero_le _, rfl, HG1'.out, by rw [mixB_zero]; exact HA1'.out, HB1'.out⟩
      case round =>
        obtain ⟨k, hk, rfl, g, ha, hb⟩ := hrel
        have GR := Lib.hid g; have HA1 := Lib.hid ha; have HB1 := Lib.hid hb
        have p0 : (0 : Int) ≤ k := by omega
        have HSL : Hid (((X).map boxB).length = 4) := by show _ = _; rw [List.length_map]; exact HR4.out
        by_cases hlt : k < 4
        · have t0 : decide ((k : Int) < 4) = true := decide_eq_true (by omega)
          have hx := run_idx4 (X) k HR4.out hlt wr
          have cc := ha.at (i := k) (by rw [mixB_len HR4.out HSL.out (by omega)]; exact hlt)
          have ff := Blk.free ha k
          have HV : Hid (gB ((X).map boxB) k = boxB (gB (X) k)) := gB_map _ _ _ (by rw [HR4.out]; exact hlt)
          clear g ha hb
          go_wp2_with (go_at_call 185; refine (gfBox_any _ _).mono ?_; rintro e w' ⟨rfl, rfl⟩)
          go_roundw
          case rel =>
            refine ⟨k + 1, by omega, by go_num, GR.out.setCell (p := ⟨h, k, none⟩) (by rw [HH.out]; exact Nat.le_refl _) _, ?_, ?_⟩
            · rw [← mixB_set HR4.out HSL.out hlt, HV.out]
              exact HA1.out.put k _
            · exact (Below.heap_setCell _ ⟨h, k, none⟩ _ (h + 1) (by show h + 1 ≠ h; omega)).trans HB1.out
          case measure => simp [Go.RowKit.intOf]; omega
        · obtain rfl : k = 4 := by omega
          rw [mixB_all HR4.out HSL.out] at ha
          have HA2 := Lib.hid ha
          clear g ha hb HA1
          obtain ⟨e, he⟩ : ∃ e : Nat, e = i / 8 - 1 := ⟨_, rfl⟩
          have hd1 : (i : Int).tdiv 8 = ((e + 1 : Nat) : Int) := by rw [Int.tdiv_eq_ediv_of_nonneg (by omega)]; omega
          have hw1 : IntKind.i64.wrap ((e : Int) + 1) = (e : Int) + 1 := IntWalk.i64_in _ (by omega)
          have hw2 : IntKind.i64.wrap (e : Int) = (e : Int) := IntWalk.i64_in _ (by omega)
          have HP : Hid (∀ W, Calls Tryz.prog 199 #[.int .u8 2, .int .i64 (e : Int)] W fun e' w' => e' = .returned (.int .u8 (ub (powB 2 e))) ∧ W = w') := fun W => gfPower_any 2 e (by omega) W
          have HE := Lib.hid he
          have x1 := ub_xor (boxB (gB l 1)) (powB 2 e)
          clear he
          go_upto_region 11 with fail
          refine wp_region_grow (by kernel_rfl) [0, 1, 0, 4, 12, 28, 63, 127, 255] [.p 0, .p 2, .p 3, .p 4, .q 1, .c 5, .p 6, .p 7, .s 8] (by kernel_rfl) (trivial) ?_
          refine wpG_pe rfl rfl ?_
          apply Exists.intro
          refine ⟨fun wq => ?_, ?_⟩
          · unfold plainAt
            go_simp
            first | exact rfl | exact ⟨rfl, rfl⟩
          go_simp
          refine wpG_pe rfl rfl ?_
          apply Exists.intro
          refine ⟨fun wq => ?_, ?_⟩
          · unfold plainAt
            go_simp
            first | exact rfl | exact ⟨rfl, rfl⟩
          go_simp
          refine wpG_pe rfl rfl ?_
          apply Exists.intro
          refine ⟨fun wq => ?_, ?_⟩
          · unfold plainAt
            go_simp
            first | exact rfl | exact ⟨rfl, rfl⟩
          go_simp
          refine wpG_pe rfl rfl ?_
          apply Exists.intro
          refine ⟨fun wq => ?_, ?_⟩
          · unfold plainAt
            go_simp
            first | exact rfl | exact ⟨rfl, rfl⟩
          go_simp
          refine wpG_qe rfl rfl ?_
          apply Exists.intro
          refine ⟨fun wq hq => ?_, ?_⟩
          · have c9 := By.at (show By wq h _ _ from hq.blk HA2.out) (i := 0) (by rw [HSL.out]; decide); rw [HX0.out] at c9
            unfold plainAt
            go_simp
            first | exact rfl | exact ⟨rfl, rfl⟩
          go_simp
          refine wpG_c rfl rfl ?_
          intro w5 g5 K hK
          go_simp
          go_at_call 199
          refine (HP.out w5).mono ?_
          rintro e wn ⟨rfl, h9⟩
          subst h9; refine hK _ _ (Gr.refl _) ?_; have G5 := Lib.hid ((Gr.drew wr).trans g5); clear g5 hK
          go_simp
          refine wpG_pe rfl rfl ?_
          apply Exists.intro
          refine ⟨fun wq => ?_, ?_⟩
          · unfold plainAt
            go_simp
            first | exact rfl | exact ⟨rfl, rfl⟩
          go_simp
          refine wpG_pe rfl rfl ?_
          apply Exists.intro
          refine ⟨fun wq => ?_, ?_⟩
          · unfold plainAt
            go_simp
            first | exact rfl | exact ⟨rfl, rfl⟩
          go_simp
          refine wpG_s rfl rfl ?_
          intro w7 g7 K hK
          have HA7 : Hid (By w7 h 190 (X.map boxB)) := (G5.out.trans g7).blk HA2.out
          have cc := HA7.out.at (i := 0) (by rw [HSL.out]; decide)
          have ff := Blk.free HA7.out 0
          go_simp
          refine hK _ _ ?_
          clear hK
          obtain ⟨R, hR⟩ : ∃ R, R = (X.map boxB).set 0 (boxB (gB l 1) ^^^ powB 2 e) := ⟨_, rfl⟩
          obtain ⟨W7, hW7⟩ : ∃ W7, W7 = w7.setCell ⟨h, 0, none⟩ (.int .u8 (ub (boxB (gB l 1) ^^^ powB 2 e))) := ⟨_, rfl⟩
          have HA8 : Hid (By W7 h 190 R) := by rw [hW7, hR]; exact HA7.out.put 0 _
          have HB8 : Hid (By W7 (h + 1) 190 (List.replicate 4 0)) := by rw [hW7]; exact (Below.heap_setCell _ ⟨h, 0, none⟩ _ (h + 1) (by show h + 1 ≠ h; omega)).trans ((G5.out.trans g7).blk HB1.out)
          have HG8 : Hid (Gr w W7) := by rw [hW7]; exact (GR.out.trans (G5.out.trans g7)).setCell (p := ⟨h, 0, none⟩) (by rw [HH.out]; exact Nat.le_refl _) _
          have HTR : Hid (turnL l i = R) := by show turnL l i = R; rw [HT.out, hR, HE.out]
          have HRL : Hid (R.length = 4) := by rw [hR, List.length_set]; exact HSL.out
          rw [← hW7]
          clear hW7 hR cc ff
          go_simp
          refine wpG_nil ?_
          intro w9 g9
          have HA9 : Hid (By w9 h 190 R) := g9.blk HA8.out
          have HB9 : Hid (By w9 (h + 1) 190 (List.replicate 4 0)) := g9.blk HB8.out
          have HG9 : Hid (Gr w w9) := HG8.out.trans g9
          clear g9 g7
          go_wp2_with (first
            | (refine wpList_load_row rfl 190 (.tmp 2) rfl h rfl 190 _ (0, 0) _ HA9.out Tryz.underlying190 rfl (size4 _ HRL.out) ?_)
            | (refine wpList_store_row rfl 190 (.tmp 4) (.tmp 44) rfl (h + 1) (R.map u8c).toArray rfl rfl 190 _ HB9.out (size4 _ HRL.out) (by rw [arr_size, arr_size, HRL.out]; rfl) (arr_one _) ?_))
          rw [HTR.out]
          exact bodyPost_ret (v := arr R) (results_cell_row Tryz.results183 _ _ (h + 1) 190 _ (0, 0) _ rfl HB9.out.row Tryz.underlying190 rfl (size4 _ HRL.out)) rfl ⟨rfl, byRow_below HG9.out (by rw [HH.out]; exact Nat.le_succ _) _⟩
    · have t1 : (((i : Int) % 8) == 0) = false := by rw [beq_eq_false_iff_ne]; omega
      have t2 : (((i : Int) % 4) != 0) = false := by rw [bne_eq_false_iff_eq]; omega
      have HT : Hid (turnL l i = l.map boxB) := by show turnL l i = _; unfold turnL; rw [if_neg (by omega), if_neg h8]
      go_enter Tryz.func183, Tryz.ntmps183
      go_upto_region 1 with fail
      rw [← HW.out]
      obtain ⟨h, hh⟩ : ∃ h, h = w.heap.size := ⟨_, rfl⟩
      rw [← hh] at HA HB ⊢
      have HH := Lib.hid hh; clear hh
      go_wp2_with (refine wpList_load_row rfl 190 (.tmp 2) rfl h rfl 190 _ (0, 0) _ HA.out Tryz.underlying190 rfl (size4 _ HL.out) ?_)
      go_loopw [24] (fun j wr => ∃ k : Nat, k ≤ 4 ∧ j = .int .i64 (k : Int) ∧ Gr w wr ∧ By wr h 190 (mixB (l) ((l).map boxB) k) ∧ By wr (h + 1) 190 (List.replicate 4 0)) (fun j _ => 4 - (Go.RowKit.intOf j).toNat)
      case atStart => exact ⟨0, Nat.zero_le _, rfl, HG.out, by rw [mixB_zero]; exact HA.out, HB.out⟩
      case round =>
        obtain ⟨k, hk, rfl, g, ha, hb⟩ := hrel
        have GR := Lib.hid g; have HA1 := Lib.hid ha; have HB1 := Lib.hid hb
        have p0 : (0 : Int) ≤ k := by omega
        have HSL : Hid (((l).map boxB).length = 4) := by show _ = _; rw [List.length_map]; exact HL.out
        by_cases hlt : k < 4
        · have t0 : decide ((k : Int) < 4) = true := decide_eq_true (by omega)
          have hx := run_idx4 (l) k HL.out hlt wr
          have cc := ha.at (i := k) (by rw [mixB_len HL.out HSL.out (by omega)]; exact hlt)
          have ff := Blk.free ha k
          have HV : Hid (gB ((l).map boxB) k = boxB (gB (l) k)) := gB_map _ _ _ (by rw [HL.out]; exact hlt)
          clear g ha hb
          go_wp2_with (go_at_call 185; refine (gfBox_any _ _).mono ?_; rintro e w' ⟨rfl, rfl⟩)
          go_roundw
          case rel =>
            refine ⟨k + 1, by omega, by go_num, GR.out.setCell (p := ⟨h, k, none⟩) (by rw [HH.out]; exact Nat.le_refl _) _, ?_, ?_⟩
            · rw [← mixB_set HL.out HSL.out hlt, HV.out]
              exact HA1.out.put k _
            · exact (Below.heap_setCell _ ⟨h, k, none⟩ _ (h + 1) (by show h + 1 ≠ h; omega)).trans HB1.out
          case measure => simp [Go.RowKit.intOf]; omega
        · obtain rfl : k = 4 := by omega
          rw [mixB_all HL.out HSL.out] at ha
          have HA2 := Lib.hid ha
          clear g ha hb HA1
          go_wp2_with (first
            | (refine wpList_load_row rfl 190 (.tmp 2) rfl h rfl 190 _ (0, 0) _ HA2.out Tryz.underlying190 rfl (size4 _ HSL.out) ?_)
            | (refine wpList_store_row rfl 190 (.tmp 4) (.tmp 44) rfl (h + 1) ((l.map boxB).map u8c).toArray rfl rfl 190 _ HB1.out (size4 _ HSL.out) (by rw [arr_size, arr_size, HSL.out]; rfl) (arr_one _) ?_))
          rw [HT.out]
          exact bodyPost_ret (v := arr (l.map boxB)) (results_cell_row Tryz.results183 _ _ (h + 1) 190 _ (0, 0) _ rfl HB1.out.row Tryz.underlying190 rfl (size4 _ HSL.out)) rfl ⟨rfl, byRow_below GR.out (by rw [HH.out]; exact Nat.le_succ _) _⟩
  · have t1 : (((i : Int) % 8) == 0) = false := by rw [beq_eq_false_iff_ne]; omega
    have t2 : (((i : Int) % 4) != 0) = true := by rw [bne_iff_ne]; omega
    have HT : Hid (turnL l i = l) := by show turnL l i = _; unfold turnL; rw [if_pos h4]
    go_enter Tryz.func183, Tryz.ntmps183
    go_upto_region 1 with fail
    rw [← HW.out]
    obtain ⟨h, hh⟩ : ∃ h, h = w.heap.size := ⟨_, rfl⟩
    rw [← hh] at HA HB ⊢
    have HH := Lib.hid hh; clear hh
    go_wp2_with (first
      | (refine wpList_load_row rfl 190 (.tmp 2) rfl h rfl 190 _ (0, 0) _ HA.out Tryz.underlying190 rfl (size4 _ HL.out) ?_)
      | (refine wpList_store_row rfl 190 (.tmp 4) (.tmp 22) rfl (h + 1) (l.map u8c).toArray rfl rfl 190 _ HB.out (size4 _ HL.out) (by rw [arr_size, arr_size, HL.out]; rfl) (arr_one _) ?_))
    rw [HT.out]
    exact bodyPost_ret (v := arr l) (results_cell_row Tryz.results183 _ _ (h + 1) 190 _ (0, 0) _ rfl HB.out.row Tryz.underlying190 rfl (size4 _ HL.out)) rfl ⟨rfl, byRow_below HG.out (by rw [HH.out]; exact Nat.le_succ _) _⟩
end Go.Proofs.YtcfbbgbjlgonpaaGreatDoor
