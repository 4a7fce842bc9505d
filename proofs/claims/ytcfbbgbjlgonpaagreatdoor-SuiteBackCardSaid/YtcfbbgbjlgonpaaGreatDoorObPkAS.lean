/- Own texts of this claim, one behind the other. No condition. -/
import Derived.Test.YtcfbbgbjlgonpaaGreatDoorObPkAQ
import Derived.Test.YtcfbbgbjlgonpaaGreatDoorObPkAR
import Derived.Deep.MidRow
import Derived.Laws.CopyRow

/- AES: column, Mix. No condition. -/
namespace Go.Proofs.YtcfbbgbjlgonpaaGreatDoor
open Go.RowKit
set_option linter.unusedVariables false
set_option linter.unusedSimpArgs false
theorem By.range {w : World} {g : Nat} {t : TypeId} {l : List UInt8} (h : By w g t l) (o n : Nat) : w.rangeAt g o (((l.drop o).take n).map u8c) := fun j v hv => by
  rw [Blk.cell h]
  rw [List.getElem?_map, List.getElem?_take] at hv
  rw [List.getElem?_map]
  split at hv
  · rwa [List.getElem?_drop] at hv
  · simp at hv
theorem run_toArr (A : Option Addr) (c : Nat) (w : World) : (Instr.arrayAt 190 (.slice A 4 c)).run Tryz.prog w = .ok (.pointer A) w := by
  unfold Instr.arrayAt
  simp only [Sem.run_bind, run_underlying Tryz.underlying190, Result.andThen_ok]
  rfl
theorem run_arr4 (g : Nat) (w : World) : (Instr.sliceAt 190 (.pointer (some ⟨g, 0, none⟩)) none none none).run Tryz.prog w = .ok (.slice (some ⟨g, 0, none⟩) 4 4) w := by kernel_rfl
/-- Four bytes, in an array that the call has made. -/
def Ret4 (w : World) (l : List UInt8) (e : Ending) (w' : World) : Prop := ∃ g, e = .returned (.slice (some ⟨g, 0, none⟩) 4 4) ∧ By w' g 190 l ∧ w.heap.size ≤ g ∧ Gr w w'
set_option maxRecDepth 100000 in
set_option maxHeartbeats 1000000 in
theorem aesColumn_any (b o c : Nat) (l : List UInt8) (hl : l.length = 4) (w : World) (hr : w.rangeAt b o (l.map u8c)) :
    Calls Tryz.prog 184 #[.slice (some ⟨b, o, none⟩) 4 c] w (Ret4 w (colL l)) := by
  have hx := run_toArr (some ⟨b, o, none⟩) c w
  have HS : Hid ((Tryz.prog.info? 190).map (·.size) = some (l.map u8c).length) := by
    show (Tryz.prog.info? 190).map (·.size) = some (l.map u8c).length
    rw [List.length_map, hl]; kernel_rfl
  have HR := Lib.hid hr; have HC := Lib.hid (gfColumn_any l hl w)
  clear hr hl
  go_enter Tryz.func184, Tryz.ntmps184
  go_wp2_with (first
    | (refine wpList_load_mid rfl 190 (.tmp 5) rfl b o rfl (l.map u8c) _ HR.out Tryz.underlying190 rfl HS.out ?_)
    | (go_at_call 200; refine HC.out.mono ?_; rintro e w1 ⟨rfl, g1⟩; have G1 := Lib.hid g1; have hy := run_arr4 w1.heap.size; clear g1; unfold arr)
    | (refine wpList_store_row rfl 190 (.tmp 3) (.tmp 7) rfl w1.heap.size ((colL l).map u8c).toArray rfl rfl 190 _ (heap_alloc_new w1 _) (size4 _ (colL_len l)) (by rw [arr_size, colL_len]; rfl) (arr_one _) ?_))
  go_ret
  have hz : By (w1.alloc (.cells #[.int .u8 0, .int .u8 0, .int .u8 0, .int .u8 0] 190)) w1.heap.size 190 [0, 0, 0, 0] := heap_alloc_new w1 _
  exact ⟨w1.heap.size, rfl, hz.row, G1.out.size, byRow_below (G1.out.trans (Gr.alloc _ _)) G1.out.size _⟩
/-! ### Mix -/
theorem wp_copy_row {P : Program} {o : Oper} {a : Act} {w : World} {K : Act → World → Prop} {Q : Exit → Act → World → Prop} (d s : Operand) (dT sT : TypeId)
    (ho : o.op = .call { callee := .builtin .copy, args := #[d, s], argTypes := #[dT, sT] }) (elem : TypeId) (hu : P.underlying dT = some (.slice elem)) (hsz : (P.info? elem).map (·.size) = some 1)
    (g off dLen dCap : Nat) (ad : Addr) (sLen sCap : Nat) (hd : a.eval d = .slice (some ⟨g, off, none⟩) dLen dCap) (hs : a.eval s = .slice (some ad) sLen sCap)
    (cur : Array Value) (t : TypeId) (hg : w.heap[g]? = some (.cells cur t (0, 0))) (cs : List Value) (hn : cs.length = Nat.min sLen dLen)
    (hsrc : ∀ j v, cs[j]? = some v → w.cell? (ad.add j) = some v) (hfit : off + cs.length ≤ cur.size) (h1 : ∀ v ∈ cs, v.oneCell' = true)
    (new : Array Value) (hnew : (cur.toList.take off ++ cs ++ cur.toList.drop (off + cs.length)).toArray = new)
    (h : K (a.put o.dst (goInt cs.length)) (w.setRow g new)) : o.wp P a w K Q := by
  have hrun := run_copy_row (P := P) w dT sT o.type elem g off dLen dCap ad sLen sCap cur t cs hu hsz hg hn hsrc hfit h1
  rw [hnew] at hrun
  unfold Oper.wp
  simp [execOp, ho, resolve, invoke, builtin, hd, hs, hrun, Result.andThen]
  exact h
/-- Bytes are copied out of an array into another one. -/
theorem By.spliced {w : World} {g : Nat} {t : TypeId} {l m : List UInt8} (h : By w g t l) (o : Nat) : (((l.map u8c).toArray.toList.take o ++ m.map u8c ++ (l.map u8c).toArray.toList.drop (o + (m.map u8c).length)).toArray) = ((l.take o ++ m ++ l.drop (o + m.length)).map u8c).toArray := by
  simp [List.map_append, List.map_take, List.map_drop]
theorem By.src {w : World} {g : Nat} {t : TypeId} {l : List UInt8} (h : By w g t l) : ∀ j v, (l.map u8c)[j]? = some v → w.cell? ((⟨g, 0, none⟩ : Addr).add j) = some v := fun j v hv => by
  rw [Addr.add_mid, Nat.zero_add, Blk.cell h]
  exact hv
theorem bytes_one (l : List UInt8) : ∀ v ∈ l.map u8c, v.oneCell' = true := fun v hv => by
  obtain ⟨y, _, rfl⟩ := List.mem_map.1 hv
  rfl
def mixAt (l : List UInt8) (d : Nat) : List UInt8 := l.take d ++ colL ((l.drop d).take 4) ++ l.drop (d + 4)
def mixTo (l : List UInt8) : Nat → List UInt8
  | 0 => l
  | k + 1 => mixAt (mixTo l k) (4 * k)
theorem mixAt_len {l : List UInt8} {d : Nat} (hl : l.length = 16) (hd : d + 4 ≤ 16) : (mixAt l d).length = 16 := by simp [mixAt, colL_len, hl]; omega
theorem mixTo_len {l : List UInt8} (hl : l.length = 16) : ∀ k, k ≤ 4 → (mixTo l k).length = 16
  | 0, _ => hl
  | k + 1, h => mixAt_len (mixTo_len hl k (by omega)) (by omega)
def amixL (l : List UInt8) : List UInt8 := mixTo l 4
theorem amixL_len {l : List UInt8} (hl : l.length = 16) : (amixL l).length = 16 := mixTo_len hl 4 (Nat.le_refl _)
theorem run_part16 (h d : Nat) (hd : d = 0 ∨ d = 4 ∨ d = 8 ∨ d = 12) (w : World) : (Instr.sliceAt 151 (.pointer (some ⟨h, 0, none⟩)) (some (.int .i64 (d : Int))) (some (.int .i64 ((d : Int) + 4))) none).run Tryz.prog w = .ok (.slice (some ⟨h, d, none⟩) 4 (16 - d)) w := by
  rcases hd with rfl | rfl | rfl | rfl
  all_goals kernel_rfl
set_option maxRecDepth 100000 in
set_option maxHeartbeats 1000000 in
theorem aesMix_any (l : List UInt8) (hl : l.length = 16) (w : World) : Calls Tryz.prog 163 #[arr l] w fun e w' => e = .returned (arr (amixL l)) ∧ Gr w w' := by
  unfold arr
  obtain ⟨W, hW⟩ : ∃ W, W = two16 w l := ⟨_, rfl⟩
  have hG := two16_gr w l; have hA := two16_a w l; have hB := two16_b w l
  rw [← hW] at hG hA hB
  unfold two16 at hW
  have HSL := Lib.hid (amixL_len hl)
  have HA := Lib.hid hA; have HB := Lib.hid hB; have HG := Lib.hid hG; have HW := Lib.hid hW; have HL := Lib.hid hl
  clear hA hB hG hW hl
  go_enter Tryz.func163, Tryz.ntmps163
  go_upto_region 1 with fail
  rw [← HW.out]
  obtain ⟨h, hh⟩ : ∃ h, h = w.heap.size := ⟨_, rfl⟩
  rw [← hh] at HA HB ⊢
  have HH := Lib.hid hh; clear hh
  go_wp2_with fail
  go_loopw [3] (fun i wr => ∃ k d : Nat, k ≤ 4 ∧ d = 4 * k ∧ i = .int .i64 (d : Int) ∧ Gr w wr ∧ By wr h 151 (mixTo l k) ∧ By wr (h + 1) 151 (List.replicate 16 0)) (fun i _ => 16 - (Go.RowKit.intOf i).toNat)
  case atStart => exact ⟨0, 0, Nat.zero_le _, rfl, rfl, HG.out, HA.out, HB.out⟩
  case round =>
    obtain ⟨k, d, hk, hd, rfl, g, ha, hb⟩ := hrel
    have GR := Lib.hid g; have HA1 := Lib.hid ha; have HB1 := Lib.hid hb
    have p0 : (0 : Int) ≤ d := by omega
    by_cases hlt : k < 4
    · have t0 : decide ((d : Int) < 16) = true := decide_eq_true (by omega)
      have hs := run_part16 h d (by omega)
      have HM := Lib.hid (mixTo_len HL.out k (by omega))
      have HC : Hid (∀ W, Gr wr W → Calls Tryz.prog 184 #[.slice (some ⟨h, d, none⟩) 4 (16 - d)] W (Ret4 W (colL (((mixTo l k).drop d).take 4)))) := fun W hW => aesColumn_any h d (16 - d) _ (by have := HM.out; simp; omega) W (By.range (show By W h _ _ from hW.blk ha) d 4)
      have HD := Lib.hid hd
      have hwr : IntKind.i64.wrap ((d : Int) + 4) = (d : Int) + 4 := IntWalk.i64_in _ (by omega)
      have HK := Lib.hid hk; have HLT := Lib.hid hlt
      clear g ha hb hd hk hlt
      go_upto_region 4 with fail
      refine wp_region_grow (by kernel_rfl) [0, 0, 2, 7, 0, 0, 32, 112, 240, 511] [.p 0, .p 1, .p 2, .p 3, .p 4, .p 5, .p 6, .p 7, .c 8, .s 9] (by kernel_rfl) (trivial) ?_
      refine wpG_pe rfl rfl ?_
      apply Exists.intro
      refine ⟨fun wq => ?_, ?_⟩
      · unfold plainAt
        go_simp
        first | exact rfl | exact ⟨rfl, rfl⟩
      go_simp
      refine wpG_pe rfl rfl ?_
      apply Exists.intro
      refine ⟨fun wq => ?_, ?_⟩
      · unfold plainAt
        go_simp
        first | exact rfl | exact ⟨rfl, rfl⟩
      go_simp
      refine wpG_pe rfl rfl ?_
      apply Exists.intro
      refine ⟨fun wq => ?_, ?_⟩
      · unfold plainAt
        go_simp
        first | exact rfl | exact ⟨rfl, rfl⟩
      go_simp
      refine wpG_pe rfl rfl ?_
      apply Exists.intro
      refine ⟨fun wq => ?_, ?_⟩
      · unfold plainAt
        go_simp
        first | exact rfl | exact ⟨rfl, rfl⟩
      go_simp
      refine wpG_pe rfl rfl ?_
      apply Exists.intro
      refine ⟨fun wq => ?_, ?_⟩
      · unfold plainAt
        go_simp
        first | exact rfl | exact ⟨rfl, rfl⟩
      go_simp
      refine wpG_pe rfl rfl ?_
      apply Exists.intro
      refine ⟨fun wq => ?_, ?_⟩
      · unfold plainAt
        go_simp
        first | exact rfl | exact ⟨rfl, rfl⟩
      go_simp
      refine wpG_pe rfl rfl ?_
      apply Exists.intro
      refine ⟨fun wq => ?_, ?_⟩
      · unfold plainAt
        go_simp
        first | exact rfl | exact ⟨rfl, rfl⟩
      go_simp
      refine wpG_pe rfl rfl ?_
      apply Exists.intro
      refine ⟨fun wq => ?_, ?_⟩
      · unfold plainAt
        go_simp
        first | exact rfl | exact ⟨rfl, rfl⟩
      go_simp
      refine wpG_c rfl rfl ?_
      intro w5 g5 K hK
      go_simp
      go_at_call 184
      refine (HC.out w5 ((Gr.drew _).trans g5)).mono ?_
      rintro e wn ⟨gc, rfl, bc, hge, g6⟩
      refine hK _ _ g6 ?_; have G6 := Lib.hid ((((Gr.drew wr).trans g5).trans g6)); have BC := Lib.hid bc; have HGE := Lib.hid hge; clear g5 g6 hK bc hge
      go_simp
      refine wpG_s rfl rfl ?_
      intro w7 g7 K hK
      have HA7 : Hid (By w7 h 151 (mixTo l k)) := (G6.out.trans g7).blk HA1.out
      have HC7 : Hid (By w7 gc 190 (colL (((mixTo l k).drop d).take 4))) := g7.blk BC.out
      refine wp_copy_row (.tmp 11) (.tmp 16) 28 28 rfl 5 Tryz.underlying28 (by kernel_rfl) h d 4 (16 - d) ⟨gc, 0, none⟩ 4 4 rfl rfl _ 151 HA7.out _ (by rw [List.length_map, colL_len]; rfl) HC7.out.src (by rw [List.length_map, colL_len, arr_size, HM.out]; have := HD.out; have := HLT.out; omega) (bytes_one _) ((mixTo l (k + 1)).map u8c).toArray (by rw [HA7.out.spliced d, colL_len, HD.out]; rfl) ?_
      refine hK _ _ ?_
      clear hK
      obtain ⟨W7, hW7⟩ : ∃ W7, W7 = w7.setRow h ((mixTo l (k + 1)).map u8c).toArray := ⟨_, rfl⟩
      have HA8 : Hid (By W7 h 151 (mixTo l (k + 1))) := by rw [hW7]; exact HA7.out.row
      have HB8 : Hid (By W7 (h + 1) 151 (List.replicate 16 0)) := by rw [hW7]; exact (setRow_other w7 h (h + 1) _ (by omega)).trans ((G6.out.trans g7).blk HB1.out)
      have HG8 : Hid (Gr w W7) := by rw [hW7]; exact byRow_below (GR.out.trans (G6.out.trans g7)) (by rw [HH.out]; exact Nat.le_refl _) _
      rw [← hW7]
      clear hW7
      go_simp
      refine wpG_nil ?_
      intro w9 g9
      have HA9 : Hid (By w9 h 151 (mixTo l (k + 1))) := g9.blk HA8.out
      have HB9 : Hid (By w9 (h + 1) 151 (List.replicate 16 0)) := g9.blk HB8.out
      have HG9 : Hid (Gr w w9) := HG8.out.trans g9
      clear g9 g7
      go_wp2_with fail
      go_roundw
      case rel => exact ⟨k + 1, d + 4, by have := HLT.out; omega, by have := HD.out; omega, by go_num, HG9.out, HA9.out, HB9.out⟩
      case measure => have := HD.out; have := HLT.out; simp [Go.RowKit.intOf]; omega
    · obtain rfl : k = 4 := by omega
      subst hd
      have HA2 : Hid (By wr h 151 (amixL l)) := ha
      clear g ha hb HA1
      go_wp2_with (first
        | (refine wpList_load_row rfl 151 (.tmp 1) rfl h rfl 151 _ (0, 0) _ HA2.out Tryz.underlying151 rfl (size16 _ HSL.out) ?_)
        | (refine wpList_store_row rfl 151 (.tmp 2) (.tmp 18) rfl (h + 1) ((amixL l).map u8c).toArray rfl rfl 151 _ HB1.out (size16 _ HSL.out) (by rw [arr_size, arr_size, HSL.out]; rfl) (arr_one _) ?_))
      exact bodyPost_ret (v := arr (amixL l)) (results_cell_row Tryz.results163 _ _ (h + 1) 151 _ (0, 0) _ rfl HB1.out.row Tryz.underlying151 rfl (size16 _ HSL.out)) rfl ⟨rfl, byRow_below GR.out (by rw [HH.out]; exact Nat.le_succ _) _⟩
end Go.Proofs.YtcfbbgbjlgonpaaGreatDoor
