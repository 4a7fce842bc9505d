/- Own texts, one behind the other. No condition. -/
import Derived.Test.YtdkmlmbehlooiaaGreatDoorObPkBD
set_option linter.unusedVariables false
set_option linter.unusedSimpArgs false
namespace Go.Proofs.YtdkmlmbehlooiaaGreatDoor
section
open Go.RowKit
abbrev readC (va vn : Value) (gen first : Nat) (pg : Int) : List Value := [va, vn, .int .u64 (gen : Int), .int .u64 (first : Int), .int .i64 pg]
theorem tPage : ElemT Tryz.prog 94 188 (.agg #[.int .i64 0, .slice none 0 0]) 2 32 := ⟨Tryz.underlying94, by kernel_rfl, rfl, by decide, by decide⟩
theorem run_slice46 (b o n c : Nat) (h : 6 ≤ n) (hc : n ≤ c) (w : World) : (Instr.slice 36 (.slice (some ⟨b, o, none⟩) n c) (some (.int .i64 4)) (some (.int .i64 6)) none).run Tryz.prog w = .ok (.slice (some ⟨b, o + 4, none⟩) 2 (c - 4)) w := by
 obtain ⟨i, hi, hz, hsz, hby⟩ := info_parts tBytes.info
 have he : Tryz.prog.elem 36 = 5 := by simp [Program.elem, tBytes.und]
 have hu : Tryz.prog.underlying 36 = some (.slice (Tryz.prog.elem 36)) := by rw [he]; exact tBytes.und
 rw [run_slice_lh w 36 (some ⟨b, o, none⟩) n c hu .i64 .i64 4 6 (by omega) (by omega) (by omega)]
 have e3 : ¬ c - 4 = 0 := by omega
 simp [sizeOf, typeInfo, he, hi, Result.andThen, sliced, hsz, add_flat]
 omega
theorem Sl.partW {w : World} {b o n c : Nat} {l : List UInt8} (h : Bs w (some ⟨b, o, none⟩) n c l) {lo m : Nat} (hk : lo + m ≤ n) : Bs w (some ⟨b, o + lo, none⟩) m (c - lo) ((l.drop lo).take m) := by
 have h1 := Sl.from (A' := some ⟨b, o + lo, none⟩) h (show lo ≤ n by omega) (fun _ b' o' e => by injection e with e; injection e with e1 e2; subst e1 e2; rfl)
 have h2 := Sl.upto h1 (show m ≤ n - lo by omega)
 rw [← List.map_drop, ← List.map_take] at h2
 exact h2
theorem QB.from {kb : Nat} {w : World} {A A' : Option Addr} {n c : Nat} {l : List UInt8} (h : QB kb w A n c l) {k : Nat} (hk : k ≤ n) (hA : k < n → ∀ b o, A = some ⟨b, o, none⟩ → A' = some ⟨b, o + k, none⟩) : QB kb w A' (n - k) (c - k) (l.drop k) := by
 refine ⟨?_, fun b o h0 e => ?_⟩
 · have := Sl.from h.b hk hA
   rwa [← List.map_drop] at this
 · obtain ⟨b', o', e', _⟩ := Sl.addr h.b (by omega)
   have := hA (by omega) b' o' e'
   rw [e] at this
   injection this with this
   injection this with e1 _ _
   subst e1
   exact h.u b o' (by omega) e'
section
variable {w0 w w' : World} {n : Nat}
theorem secBody_get (k : Nat) (p : Nat) (b : List UInt8) (hp : p < 65536) : getS (((be 0 4 ++ be p 2) ++ b).take 4) = 0 ∧ getF (((be 0 4 ++ be p 2) ++ b).take 4) = 0 ∧ getS ((((be 0 4 ++ be p 2) ++ b).drop 4).take 2) = p ∧ getF ((((be 0 4 ++ be p 2) ++ b).drop 4).take 2) = 0 := by
 have e1 : ((be 0 4 ++ be p 2) ++ b).take 4 = be 0 4 := by rw [List.append_assoc, List.take_append_of_le_length (by rw [be_length]; exact Nat.le_refl _), List.take_of_length_le (by rw [be_length]; exact Nat.le_refl _)]
 have e2 : (((be 0 4 ++ be p 2) ++ b).drop 4).take 2 = be p 2 := by
  rw [List.append_assoc, List.drop_append_of_le_length (by rw [be_length]; exact Nat.le_refl _), List.drop_of_length_le (by rw [be_length]; exact Nat.le_refl _), List.nil_append, List.take_append_of_le_length (by rw [be_length]; exact Nat.le_refl _), List.take_of_length_le (by rw [be_length]; exact Nat.le_refl _)]
 rw [e1, e2]
 unfold getS getF
 rw [be_length, be_length, if_pos (by decide), if_pos (by decide), if_pos (by decide), if_pos (by decide), getL_be 4 0 (by decide), getL_be 2 p (by have : (256 : Nat) ^ 2 = 65536 := by decide
                                                                                                                                                    omega)]
 exact ⟨rfl, rfl, rfl, rfl⟩
set_option maxRecDepth 100000 in
set_option maxHeartbeats 4000000 in
theorem takeData_any (kb pt life gen k p i : Nat) (b : List UInt8) (pg : Int) (g0 : Nat) (v : Value) (R : List PRow) (A : Option Addr) (n c : Nat) (hn : n = 6 + b.length) (hp : (p : Int) < pg) (hpg : pg ≤ 264) (hkk : k ≤ 100) (hb : b.length ≤ 473)
 (ht : Blk w pt 182 (readC (.slice none 0 0) v g0 0 pg)) (hv : Own w0 w 188 2 v k (R.flatMap PRow.cells)) (hg : 0 < k → g0 = gen) (hge : w0.heap.size ≤ pt)
 (hx : QB kb w A n c ((be 0 4 ++ be p 2) ++ b)) :
 Calls Tryz.prog 136 #[.pointer (some ⟨pt, 0, none⟩), .int .i64 (i : Int), .agg #[.int .i64 4, .int .u64 (life : Int), .int .i64 (k : Int), .int .u64 (gen : Int), .slice A n c]] w fun e w' => e = .returned (.bool true) ∧ ∃ v' A' c', Blk w' pt 182 (readC (.slice none 0 0) v' gen 0 pg) ∧ Own w0 w' 188 2 v' (k + 1) ((R ++ [PRow.mk p (BRow.mk A' b.length c' b)]).flatMap PRow.cells) ∧ QB kb w' A' b.length c' b ∧ Tch (fun x => x = pt ∨ v.ownBlock = some x) w w' := by
 obtain ⟨q1, q2, q3, q4⟩ := secBody_get k p b (by omega)
 obtain ⟨bb, oo, rfl, _⟩ := Sl.addr hx.b (by omega)
 have hcap := Sl.cap hx.b
 have hmax := Sl.max hx.b
 obtain ⟨A6, hA6, hrun6⟩ := run_from tBytes (some ⟨bb, oo, none⟩) n c 6 (by omega) hcap
 have r4 : ∀ W : World, (Instr.slice 36 (.slice (some ⟨bb, oo, none⟩) n c) none (some (.int .i64 4)) none).run Tryz.prog W = .ok (.slice (some ⟨bb, oo, none⟩) 4 c) W := fun W => run_upto tBytes (some ⟨bb, oo, none⟩) n c 4 (by omega) W
 have r46 : ∀ W : World, (Instr.slice 36 (.slice (some ⟨bb, oo, none⟩) n c) (some (.int .i64 4)) (some (.int .i64 6)) none).run Tryz.prog W = .ok (.slice (some ⟨bb, oo + 4, none⟩) 2 (c - 4)) W := fun W => run_slice46 bb oo _ c (by omega) hcap W
 have r6 : ∀ W : World, (Instr.slice 36 (.slice (some ⟨bb, oo, none⟩) n c) (some (.int .i64 6)) none none).run Tryz.prog W = .ok (.slice A6 b.length (c - 6)) W := fun W => by
  have := hrun6 W
  rwa [show n - 6 = b.length by omega] at this
 have Q6 : Hid (QB kb w A6 b.length (c - 6) b) := by
  have := hx.from (k := 6) (A' := A6) (by omega) (fun hlt b o e => by have := hA6 hlt b o e; rwa [Nat.mul_one] at this)
  rw [show n - 6 = b.length by omega] at this
  have e : ((be 0 4 ++ be p 2) ++ b).drop 6 = b := by
   have : (be 0 4 ++ be p 2).length = 6 := by simp [be_length]
   rw [List.drop_append_of_le_length (by omega), List.drop_of_length_le (by omega), List.nil_append]
  rwa [e] at this
 have HG4 : Hid (∀ wr, Gr w wr → Calls Tryz.prog 169 #[.slice (some ⟨bb, oo, none⟩) 4 c] wr fun e w' => e = .returned (.tuple #[.int .u64 0, .int .i64 0]) ∧ wr = w') := fun wr g => by
  have hs : Bs wr (some ⟨bb, oo, none⟩) 4 c (((be 0 4 ++ be p 2) ++ b).take 4) := by have := (hx.mono g).b.upto (k := 4) (by omega); rwa [← List.map_take] at this
  have := get_any _ _ _ _ wr hs
  rw [q1, q2] at this
  exact this
 have HG2 : Hid (∀ wr, Gr w wr → Calls Tryz.prog 169 #[.slice (some ⟨bb, oo + 4, none⟩) 2 (c - 4)] wr fun e w' => e = .returned (.tuple #[.int .u64 (p : Int), .int .i64 0]) ∧ wr = w') := fun wr g => by
  have hs : Bs wr (some ⟨bb, oo + 4, none⟩) 2 (c - 4) ((((be 0 4 ++ be p 2) ++ b).drop 4).take 2) := by have := Sl.partW (hx.mono g).b (lo := 4) (m := 2) (by omega); exact this
  have := get_any _ _ _ _ wr hs
  rw [q3, q4] at this
  exact this
 obtain ⟨W, hW⟩ : ∃ W, W = w.alloc (.cells #[.int .i64 4, .int .u64 (life : Int), .int .i64 (k : Int), .int .u64 (gen : Int), .slice (some ⟨bb, oo, none⟩) n c] 129) := ⟨_, rfl⟩
 have G0 : Hid (Gr w W) := by rw [hW]; exact Gr.alloc _ _
 have B0 : Hid (Blk W w.heap.size 129 [.int .i64 4, .int .u64 (life : Int), .int .i64 (k : Int), .int .u64 (gen : Int), .slice (some ⟨bb, oo, none⟩) n c]) := by rw [hW]; exact Blk.new w _ _
 have HW := Lib.hid hW; clear hW
 obtain ⟨Av, cv, rfl, sv⟩ := hv.slice
 have hcv := Sl.cap sv; have hmv := Sl.max sv
 have HT := Lib.hid ht; have HV := Lib.hid hv
 have T0 := Lib.hid (ht.mono G0.out)
 have t1 : decide ((n : Int) < 6) = false := decide_eq_false (by omega)
 have t2 : decide ((p : Int) < pg) = true := decide_eq_true hp
 have wp : IntKind.i64.wrap (p : Int) = (p : Int) := IntWalk.i64_in _ (by omega)
 obtain ⟨u, hu⟩ : ∃ u, u = decide (0 < (k : Int)) := ⟨_, rfl⟩
 have hug : u = true → ((gen : Int) != (g0 : Int)) = false := fun e => by
  rw [e] at hu
  have : 0 < (k : Int) := of_decide_eq_true hu.symm
  rw [hg (by omega)]; simp
 have HUG := Lib.hid hug; have HU := Lib.hid hu
 have HN := Lib.hid hn
 clear ht hx hv q1 q2 q3 q4 hA6 hrun6 sv hug hu hg hp hn
 go_enter Tryz.func136, Tryz.ntmps136
 go_upto_region 1 with fail
 rw [← HW.out]
 have hu' : decide (0 < (k : Int)) = u := HU.out.symm
 have hu2 : decide (0 < k) = u := by rw [HU.out]; exact decide_eq_decide.2 (by omega)
 have STEP : Hid (∀ w1, Gr W w1 → Blk w1 w.heap.size 129 [.int .i64 4, .int .u64 (life : Int), .int .i64 (k : Int), .int .u64 (gen : Int), .slice (some ⟨bb, oo, none⟩) n c] ∧ Blk w1 pt 182 (readC (.slice none 0 0) (.slice Av k cv) g0 0 pg)) := fun w1 g => ⟨B0.out.mono g, T0.out.mono g⟩
 have D1 : ∃ w1, Gr W w1 ∧ True := ⟨W, Gr.refl _, trivial⟩
 cases u
 ·
  refine wrG (by kernel_rfl) [0, 1, 3, 7, 15, 31, 63, 127, 255, 511, 1023, 2047, 4095, 8191, 16383, 8191, 40959, 106495, 237567, 499711, 1048575, 2097151, 4194303] [.p 0, .q 1, .p 2, .p 3, .p 4, .p 5, .p 6, .p 7, .p 8, .q 9, .p 10, .p 11, .p 12, .p 13, .p 15, .p 16, .p 17, .p 18, .q 14, .q 19, .p 20, .p 21, .p 22] (by kernel_rfl) (trivial) ?_
  refine wPe rfl rfl ?_
  apply Exists.intro
  refine ⟨fun wq => ?_, ?_⟩
  · unfold pLa
    go_simp
    first | exact rfl | exact ⟨rfl, rfl⟩
  go_simp
  refine wQe rfl rfl ?_
  apply Exists.intro
  refine ⟨fun wq hq => ?_, ?_⟩
  · obtain ⟨z1, z2⟩ := STEP.out wq ((Gr.drew _).trans hq); have k4 := z1.cell 4; have k3 := z1.cell 3; have y1 := z2.cell 1; have y2 := z2.cell 2
    unfold pLa
    go_simp
    first | exact rfl | exact ⟨rfl, rfl⟩
  go_simp
  iterate 7
   refine wPe rfl rfl ?_
   apply Exists.intro
   refine ⟨fun wq => ?_, ?_⟩
   · unfold pLa
     go_simp
     first | exact rfl | exact ⟨rfl, rfl⟩
   go_simp
  refine wQe rfl rfl ?_
  apply Exists.intro
  refine ⟨fun wq hq => ?_, ?_⟩
  · obtain ⟨z1, z2⟩ := STEP.out wq ((Gr.drew _).trans hq); have k4 := z1.cell 4; have k3 := z1.cell 3; have y1 := z2.cell 1; have y2 := z2.cell 2
    unfold pLa
    go_simp
    first | exact rfl | exact ⟨rfl, rfl⟩
  go_simp
  iterate 3
   refine wPe rfl rfl ?_
   apply Exists.intro
   refine ⟨fun wq => ?_, ?_⟩
   · unfold pLa
     go_simp
     first | exact rfl | exact ⟨rfl, rfl⟩
   go_simp
  first | refine wGp rfl rfl ?_ | refine wGq rfl rfl ?_ | refine wGc rfl rfl ?_
  go_simp
  first | refine wGp rfl rfl ?_ | refine wGq rfl rfl ?_ | refine wGc rfl rfl ?_
  go_simp
  first | refine wGp rfl rfl ?_ | refine wGq rfl rfl ?_ | refine wGc rfl rfl ?_
  go_simp
  first | refine wGp rfl rfl ?_ | refine wGq rfl rfl ?_ | refine wGc rfl rfl ?_
  go_simp
  first | refine wGp rfl rfl ?_ | refine wGq rfl rfl ?_ | refine wGc rfl rfl ?_
  go_simp
  first | refine wGp rfl rfl ?_ | refine wGq rfl rfl ?_ | refine wGc rfl rfl ?_
  go_simp
  first | refine wGp rfl rfl ?_ | refine wGq rfl rfl ?_ | refine wGc rfl rfl ?_
  go_simp
  first | refine wGp rfl rfl ?_ | refine wGq rfl rfl ?_ | refine wGc rfl rfl ?_
  go_simp
  iterate 2
   refine wPe rfl rfl ?_
   apply Exists.intro
   refine ⟨fun wq => ?_, ?_⟩
   · unfold pLa
     go_simp
     first | exact rfl | exact ⟨rfl, rfl⟩
   go_simp
  refine wNi ?_
  intro w1 g1
  replace g1 : Gr W w1 := (Gr.drew _).trans g1
  obtain ⟨z1, z2⟩ := STEP.out w1 g1
  have G1 := Lib.hid (G0.out.trans g1); have Z1 := Lib.hid z1; have Z2 := Lib.hid z2
  have k4 := z1.cell 4
  have k3 := z1.cell 3
  have y3 := z2.cell 3
  have y2 := z2.cell 2
  have fy := Blk.free z2 2
  clear g1 z1 z2
  go_wp2_with fail
  refine (HG4.out _ G1.out).mono ?_
  rintro e wd ⟨rfl, hwd⟩
  subst hwd
  go_wp2_with fail
  refine (HG2.out _ G1.out).mono ?_
  rintro e wd ⟨rfl, hwd⟩
  subst hwd
  obtain ⟨w2, hw2⟩ : ∃ w2, w2 = w1.setCell ⟨pt, 2, none⟩ (.int .u64 (gen : Int)) := ⟨_, rfl⟩
  have T2 : Hid (Tch (fun x => x = pt) w1 w2) := by show Tch _ _ _; rw [hw2]; exact Tch.set ⟨pt, 2, none⟩ _ rfl
  have R2 : Hid (Blk w2 pt 182 (readC (.slice none 0 0) (.slice Av k cv) gen 0 pg)) := by show Blk _ _ _ _; rw [hw2]; exact Z2.out.set 2 _
  have P2 : Hid (Blk w2 w.heap.size 129 [.int .i64 4, .int .u64 (life : Int), .int .i64 (k : Int), .int .u64 (gen : Int), .slice (some ⟨bb, oo, none⟩) n c]) := Z1.out.tch T2.out (fun e => by have := HT.out.lt; omega)
  have k0 := P2.out.cell 0
  have y4 := R2.out.cell 4
  rw [hw2] at k0 y4
  have HW2 := Lib.hid hw2
  clear hw2
  go_upto_region 9 with fail
  rw [← HW2.out]
  clear k4 k3 y3 y2 fy k0 y4
  have O2 : Hid (Own w0 w2 188 2 (.slice Av k cv) k (R.flatMap PRow.cells)) := (HV.out.mono G1.out).tch T2.out (fun b e => e ▸ hge) (fun b q e => by
   obtain ⟨cs, z⟩ := (HV.out.mono G1.out).blk_at q
   rw [e] at z
   exact absurd (bTy z Z2.out) (by decide))
  refine wrG (by kernel_rfl) [0, 0, 2, 6, 14, 30, 0, 64, 0, 256, 768, 1984, 4032, 8190, 16383, 32767, 65535, 131071] [.p 0, .p 1, .p 2, .p 3, .p 4, .p 6, .p 8, .q 5, .q 9, .p 10, .p 7, .p 11, .c 12, .s 13, .p 14, .p 15, .p 16, .s 17] (by kernel_rfl) (trivial) ?_
  iterate 7
   refine wPe rfl rfl ?_
   apply Exists.intro
   refine ⟨fun wq => ?_, ?_⟩
   · unfold pLa
     go_simp
     first | exact rfl | exact ⟨rfl, rfl⟩
   go_simp
  refine wQe rfl rfl ?_
  apply Exists.intro
  refine ⟨fun wq hq => ?_, ?_⟩
  · have y1 := (R2.out.mono ((Gr.drew _).trans hq)).cell 1
    unfold pLa
    go_simp
    first | exact rfl | exact ⟨rfl, rfl⟩
  go_simp
  refine wQe rfl rfl ?_
  apply Exists.intro
  refine ⟨fun wq hq => ?_, ?_⟩
  · have k4 := (P2.out.mono ((Gr.drew _).trans hq)).cell 4
    unfold pLa
    go_simp
    first | exact rfl | exact ⟨rfl, rfl⟩
  go_simp
  iterate 3
   refine wPe rfl rfl ?_
   apply Exists.intro
   refine ⟨fun wq => ?_, ?_⟩
   · unfold pLa
     go_simp
     first | exact rfl | exact ⟨rfl, rfl⟩
   go_simp
  refine wpG_c rfl rfl ?_
  intro w3 g3 K hK
  refine wp_build1 94 188 (.tmp 84) rfl (pageC p A6 b.length (c - 6)) rfl Tryz.underlying94 pageSize (by kernel_rfl) (show 0 < 2 by decide) (show 2 ≤ 2 ^ 24 by decide) ?_
  refine hK _ _ (Gr.alloc _ _) ?_
  clear hK
  go_simp
  refine wpG_s rfl rfl ?_
  intro w5 g5 K hK
  have G5 : Hid (Gr w2 w5) := (((Gr.drew _).trans g3).trans (Gr.alloc _ _)).trans g5
  have N5 : Hid (Blk w5 w3.heap.size 188 [.int .i64 (p : Int), .slice A6 b.length (c - 6)]) := (Blk.new w3 _ (pageC p A6 b.length (c - 6))).mono g5
  have O5 : Hid (Own w0 w5 188 2 (.slice Av k cv) k (R.flatMap PRow.cells)) := O2.out.mono G5.out
  refine wp_pushG (.tmp 78) (.tmp 85) 94 rfl tPage rfl O5.out w3.heap.size 1 [.int .i64 (p : Int), .slice A6 b.length (c - 6)] rfl rfl (by intro u hu; rcases List.mem_cons.1 hu with rfl | hu; rfl; rw [List.mem_singleton.1 hu]; rfl) (fun j u hu => (N5.out.cell j).trans hu) (show (k + 1) * 32 ≤ 140737488355328 by omega) ?_
  intro v6 w6 o6 kp6
  refine hK _ _ ?_
  clear hK
  go_simp
  iterate 3
   refine wPe rfl rfl ?_
   apply Exists.intro
   refine ⟨fun wq => ?_, ?_⟩
   · unfold pLa
     go_simp
     first | exact rfl | exact ⟨rfl, rfl⟩
   go_simp
  refine wpG_s rfl rfl ?_
  intro w7 g7 K hK
  have T6 : Hid (Tch (fun x => Value.ownBlock (.slice Av k cv) = some x) w5 w6) := kp6.tch (below_two O5.out.below o6.below kp6.2.1)
  have R5 : Blk w5 pt 182 (readC (.slice none 0 0) (.slice Av k cv) gen 0 pg) := R2.out.mono G5.out
  have R7 : Hid (Blk w7 pt 182 (readC (.slice none 0 0) (.slice Av k cv) gen 0 pg)) := (R5.tch T6.out (own_blk O5.out R5 (by decide))).mono g7
  have O7 := Lib.hid (o6.mono g7)
  obtain ⟨A6', c6', rfl, _⟩ := o6.slice
  have f1 := Blk.free R7.out 1
  have y1 := R7.out.cell 1
  have G7 := Lib.hid g7
  clear o6 kp6 g7 R5
  go_simp
  refine hK _ _ ?_
  clear hK f1 y1
  go_simp
  refine wNi ?_
  intro w8 g8
  obtain ⟨w9, hw9⟩ : ∃ w9, w9 = w7.setCell ⟨pt, 1, none⟩ (.slice A6' (k + 1) c6') := ⟨_, rfl⟩
  have T9 : Tch (fun x => x = pt) w7 w9 := by rw [hw9]; exact Tch.set ⟨pt, 1, none⟩ _ rfl
  have R9 : Blk w9 pt 182 (readC (.slice none 0 0) (.slice A6' (k + 1) c6') gen 0 pg) := by rw [hw9]; exact R7.out.set 1 _
  have O9 : Own w0 w9 188 2 (.slice A6' (k + 1) c6') (k + 1) (R.flatMap PRow.cells ++ [.int .i64 (p : Int), .slice A6 b.length (c - 6)]) := O7.out.tch T9 (fun b e => e ▸ hge) (fun b q e => by
   obtain ⟨cs, z⟩ := O7.out.blk_at q
   rw [e] at z
   exact absurd (bTy z R7.out) (by decide))
  rw [← hw9] at g8
  clear hw9
  have TT : Tch (fun x => x = pt ∨ Value.ownBlock (.slice Av k cv) = some x) w w8 := by
   have a1 : Tch (fun x => x = pt ∨ Value.ownBlock (.slice Av k cv) = some x) w w2 := (Tch.gr G1.out).trans (T2.out.mono (fun b _ e => .inl e))
   have a2 : Tch (fun x => x = pt ∨ Value.ownBlock (.slice Av k cv) = some x) w2 w7 := ((Tch.gr G5.out).trans (T6.out.mono (fun b _ e => .inr e))).trans (Tch.gr G7.out)
   exact ((a1.trans a2).trans (T9.mono (fun b _ e => .inl e))).trans (Tch.gr g8)
  have R8 := Lib.hid (R9.mono g8); have O8 := Lib.hid (O9.mono g8); have HTT := Lib.hid TT
  clear TT R9 O9 T9 g8
  go_wp2_with fail
  go_ret
  refine ⟨rfl, _, A6, c - 6, R8.out, ?_, ?_, HTT.out⟩
  · rw [List.flatMap_append]
    exact O8.out
  · exact Q6.out.tchT HTT.out (fun x e => by
     rcases e with e | e
     · rw [e]; exact ⟨_, _, HT.out, by unfold tyB; decide⟩
     · obtain ⟨cs, z⟩ := HV.out.blk_at e
       exact ⟨_, cs, z, by unfold tyB; decide⟩)
 · have hgg := HUG.out rfl
   refine wrG (by kernel_rfl) [0, 1, 3, 7, 15, 31, 63, 127, 255, 511, 1023, 2047, 4095, 8191, 16383, 8191, 40959, 106495, 237567, 499711, 1048575, 2097151, 4194303] [.p 0, .q 1, .p 2, .p 3, .p 4, .p 5, .p 6, .p 7, .p 8, .q 9, .p 10, .p 11, .p 12, .p 13, .p 15, .p 16, .p 17, .p 18, .q 14, .q 19, .p 20, .p 21, .p 22] (by kernel_rfl) (trivial) ?_
   refine wPe rfl rfl ?_
   apply Exists.intro
   refine ⟨fun wq => ?_, ?_⟩
   · unfold pLa
     go_simp
     first | exact rfl | exact ⟨rfl, rfl⟩
   go_simp
   refine wQe rfl rfl ?_
   apply Exists.intro
   refine ⟨fun wq hq => ?_, ?_⟩
   · obtain ⟨z1, z2⟩ := STEP.out wq ((Gr.drew _).trans hq); have k4 := z1.cell 4; have k3 := z1.cell 3; have y1 := z2.cell 1; have y2 := z2.cell 2
     unfold pLa
     go_simp
     first | exact rfl | exact ⟨rfl, rfl⟩
   go_simp
   iterate 7
    refine wPe rfl rfl ?_
    apply Exists.intro
    refine ⟨fun wq => ?_, ?_⟩
    · unfold pLa
      go_simp
      first | exact rfl | exact ⟨rfl, rfl⟩
    go_simp
   refine wQe rfl rfl ?_
   apply Exists.intro
   refine ⟨fun wq hq => ?_, ?_⟩
   · obtain ⟨z1, z2⟩ := STEP.out wq ((Gr.drew _).trans hq); have k4 := z1.cell 4; have k3 := z1.cell 3; have y1 := z2.cell 1; have y2 := z2.cell 2
     unfold pLa
     go_simp
     first | exact rfl | exact ⟨rfl, rfl⟩
   go_simp
   iterate 8
    refine wPe rfl rfl ?_
    apply Exists.intro
    refine ⟨fun wq => ?_, ?_⟩
    · unfold pLa
      go_simp
      first | exact rfl | exact ⟨rfl, rfl⟩
    go_simp
   iterate 2
    refine wQe rfl rfl ?_
    apply Exists.intro
    refine ⟨fun wq hq => ?_, ?_⟩
    · obtain ⟨z1, z2⟩ := STEP.out wq ((Gr.drew _).trans hq); have k4 := z1.cell 4; have k3 := z1.cell 3; have y1 := z2.cell 1; have y2 := z2.cell 2
      unfold pLa
      go_simp
      first | exact rfl | exact ⟨rfl, rfl⟩
    go_simp
   iterate 3
    refine wPe rfl rfl ?_
    apply Exists.intro
    refine ⟨fun wq => ?_, ?_⟩
    · unfold pLa
      go_simp
      first | exact rfl | exact ⟨rfl, rfl⟩
    go_simp
   refine wNi ?_
   intro w1 g1
   replace g1 : Gr W w1 := (Gr.drew _).trans g1
   obtain ⟨z1, z2⟩ := STEP.out w1 g1
   have G1 := Lib.hid (G0.out.trans g1); have Z1 := Lib.hid z1; have Z2 := Lib.hid z2
   have k4 := z1.cell 4
   have k3 := z1.cell 3
   have y3 := z2.cell 3
   have y2 := z2.cell 2
   have fy := Blk.free z2 2
   clear g1 z1 z2
   go_wp2_with fail
   refine (HG4.out _ G1.out).mono ?_
   rintro e wd ⟨rfl, hwd⟩
   subst hwd
   go_wp2_with fail
   refine (HG2.out _ G1.out).mono ?_
   rintro e wd ⟨rfl, hwd⟩
   subst hwd
   obtain ⟨w2, hw2⟩ : ∃ w2, w2 = w1.setCell ⟨pt, 2, none⟩ (.int .u64 (gen : Int)) := ⟨_, rfl⟩
   have T2 : Hid (Tch (fun x => x = pt) w1 w2) := by show Tch _ _ _; rw [hw2]; exact Tch.set ⟨pt, 2, none⟩ _ rfl
   have R2 : Hid (Blk w2 pt 182 (readC (.slice none 0 0) (.slice Av k cv) gen 0 pg)) := by show Blk _ _ _ _; rw [hw2]; exact Z2.out.set 2 _
   have P2 : Hid (Blk w2 w.heap.size 129 [.int .i64 4, .int .u64 (life : Int), .int .i64 (k : Int), .int .u64 (gen : Int), .slice (some ⟨bb, oo, none⟩) n c]) := Z1.out.tch T2.out (fun e => by have := HT.out.lt; omega)
   have k0 := P2.out.cell 0
   have y4 := R2.out.cell 4
   rw [hw2] at k0 y4
   have HW2 := Lib.hid hw2
   clear hw2
   go_upto_region 9 with fail
   rw [← HW2.out]
   clear k4 k3 y3 y2 fy k0 y4
   have O2 : Hid (Own w0 w2 188 2 (.slice Av k cv) k (R.flatMap PRow.cells)) := (HV.out.mono G1.out).tch T2.out (fun b e => e ▸ hge) (fun b q e => by
    obtain ⟨cs, z⟩ := (HV.out.mono G1.out).blk_at q
    rw [e] at z
    exact absurd (bTy z Z2.out) (by decide))
   refine wrG (by kernel_rfl) [0, 0, 2, 6, 14, 30, 0, 64, 0, 256, 768, 1984, 4032, 8190, 16383, 32767, 65535, 131071] [.p 0, .p 1, .p 2, .p 3, .p 4, .p 6, .p 8, .q 5, .q 9, .p 10, .p 7, .p 11, .c 12, .s 13, .p 14, .p 15, .p 16, .s 17] (by kernel_rfl) (trivial) ?_
   iterate 7
    refine wPe rfl rfl ?_
    apply Exists.intro
    refine ⟨fun wq => ?_, ?_⟩
    · unfold pLa
      go_simp
      first | exact rfl | exact ⟨rfl, rfl⟩
    go_simp
   refine wQe rfl rfl ?_
   apply Exists.intro
   refine ⟨fun wq hq => ?_, ?_⟩
   · have y1 := (R2.out.mono ((Gr.drew _).trans hq)).cell 1
     unfold pLa
     go_simp
     first | exact rfl | exact ⟨rfl, rfl⟩
   go_simp
   refine wQe rfl rfl ?_
   apply Exists.intro
   refine ⟨fun wq hq => ?_, ?_⟩
   · have k4 := (P2.out.mono ((Gr.drew _).trans hq)).cell 4
     unfold pLa
     go_simp
     first | exact rfl | exact ⟨rfl, rfl⟩
   go_simp
   iterate 3
    refine wPe rfl rfl ?_
    apply Exists.intro
    refine ⟨fun wq => ?_, ?_⟩
    · unfold pLa
      go_simp
      first | exact rfl | exact ⟨rfl, rfl⟩
    go_simp
   refine wpG_c rfl rfl ?_
   intro w3 g3 K hK
   refine wp_build1 94 188 (.tmp 84) rfl (pageC p A6 b.length (c - 6)) rfl Tryz.underlying94 pageSize (by kernel_rfl) (show 0 < 2 by decide) (show 2 ≤ 2 ^ 24 by decide) ?_
   refine hK _ _ (Gr.alloc _ _) ?_
   clear hK
   go_simp
   refine wpG_s rfl rfl ?_
   intro w5 g5 K hK
   have G5 : Hid (Gr w2 w5) := (((Gr.drew _).trans g3).trans (Gr.alloc _ _)).trans g5
   have N5 : Hid (Blk w5 w3.heap.size 188 [.int .i64 (p : Int), .slice A6 b.length (c - 6)]) := (Blk.new w3 _ (pageC p A6 b.length (c - 6))).mono g5
   have O5 : Hid (Own w0 w5 188 2 (.slice Av k cv) k (R.flatMap PRow.cells)) := O2.out.mono G5.out
   refine wp_pushG (.tmp 78) (.tmp 85) 94 rfl tPage rfl O5.out w3.heap.size 1 [.int .i64 (p : Int), .slice A6 b.length (c - 6)] rfl rfl (by intro u hu; rcases List.mem_cons.1 hu with rfl | hu; rfl; rw [List.mem_singleton.1 hu]; rfl) (fun j u hu => (N5.out.cell j).trans hu) (show (k + 1) * 32 ≤ 140737488355328 by omega) ?_
   intro v6 w6 o6 kp6
   refine hK _ _ ?_
   clear hK
   go_simp
   iterate 3
    refine wPe rfl rfl ?_
    apply Exists.intro
    refine ⟨fun wq => ?_, ?_⟩
    · unfold pLa
      go_simp
      first | exact rfl | exact ⟨rfl, rfl⟩
    go_simp
   refine wpG_s rfl rfl ?_
   intro w7 g7 K hK
   have T6 : Hid (Tch (fun x => Value.ownBlock (.slice Av k cv) = some x) w5 w6) := kp6.tch (below_two O5.out.below o6.below kp6.2.1)
   have R5 : Blk w5 pt 182 (readC (.slice none 0 0) (.slice Av k cv) gen 0 pg) := R2.out.mono G5.out
   have R7 : Hid (Blk w7 pt 182 (readC (.slice none 0 0) (.slice Av k cv) gen 0 pg)) := (R5.tch T6.out (own_blk O5.out R5 (by decide))).mono g7
   have O7 := Lib.hid (o6.mono g7)
   obtain ⟨A6', c6', rfl, _⟩ := o6.slice
   have f1 := Blk.free R7.out 1
   have y1 := R7.out.cell 1
   have G7 := Lib.hid g7
   clear o6 kp6 g7 R5
   go_simp
   refine hK _ _ ?_
   clear hK f1 y1
   go_simp
   refine wNi ?_
   intro w8 g8
   obtain ⟨w9, hw9⟩ : ∃ w9, w9 = w7.setCell ⟨pt, 1, none⟩ (.slice A6' (k + 1) c6') := ⟨_, rfl⟩
   have T9 : Tch (fun x => x = pt) w7 w9 := by rw [hw9]; exact Tch.set ⟨pt, 1, none⟩ _ rfl
   have R9 : Blk w9 pt 182 (readC (.slice none 0 0) (.slice A6' (k + 1) c6') gen 0 pg) := by rw [hw9]; exact R7.out.set 1 _
   have O9 : Own w0 w9 188 2 (.slice A6' (k + 1) c6') (k + 1) (R.flatMap PRow.cells ++ [.int .i64 (p : Int), .slice A6 b.length (c - 6)]) := O7.out.tch T9 (fun b e => e ▸ hge) (fun b q e => by
    obtain ⟨cs, z⟩ := O7.out.blk_at q
    rw [e] at z
    exact absurd (bTy z R7.out) (by decide))
   rw [← hw9] at g8
   clear hw9
   have TT : Tch (fun x => x = pt ∨ Value.ownBlock (.slice Av k cv) = some x) w w8 := by
    have a1 : Tch (fun x => x = pt ∨ Value.ownBlock (.slice Av k cv) = some x) w w2 := (Tch.gr G1.out).trans (T2.out.mono (fun b _ e => .inl e))
    have a2 : Tch (fun x => x = pt ∨ Value.ownBlock (.slice Av k cv) = some x) w2 w7 := ((Tch.gr G5.out).trans (T6.out.mono (fun b _ e => .inr e))).trans (Tch.gr G7.out)
    exact ((a1.trans a2).trans (T9.mono (fun b _ e => .inl e))).trans (Tch.gr g8)
   have R8 := Lib.hid (R9.mono g8); have O8 := Lib.hid (O9.mono g8); have HTT := Lib.hid TT
   clear TT R9 O9 T9 g8
   go_wp2_with fail
   go_ret
   refine ⟨rfl, _, A6, c - 6, R8.out, ?_, ?_, HTT.out⟩
   · rw [List.flatMap_append]
     exact O8.out
   · exact Q6.out.tchT HTT.out (fun x e => by
      rcases e with e | e
      · rw [e]; exact ⟨_, _, HT.out, by unfold tyB; decide⟩
      · obtain ⟨cs, z⟩ := HV.out.blk_at e
        exact ⟨_, cs, z, by unfold tyB; decide⟩)
end
end
end Go.Proofs.YtdkmlmbehlooiaaGreatDoor
