/- Own texts of this claim, one behind the other. No condition. -/
import Derived.Test.YtcfbbgbjlgonpaaGreatDoorObPkAV

/- Counters: Next. No condition. -/
namespace Go.Proofs.YtcfbbgbjlgonpaaGreatDoor
open Go.RowKit
set_option linter.unusedVariables false
set_option linter.unusedSimpArgs false
/-- The byte at place i gets one more; a carry goes on to the left. -/
def ctrUp (c : List UInt8) : Nat → List UInt8
  | 0 => c.set 0 (gB c 0 + 1)
  | i + 1 => if gB c (i + 1) + 1 = 0 then ctrUp (c.set (i + 1) 0) i else c.set (i + 1) (gB c (i + 1) + 1)
def nextL (c : List UInt8) : List UInt8 := ctrUp c 15
theorem ctrUp_len : ∀ (i : Nat) (c : List UInt8), (ctrUp c i).length = c.length
  | 0, c => by simp [ctrUp]
  | i + 1, c => by
    unfold ctrUp
    split
    · rw [ctrUp_len i, List.length_set]
    · simp
theorem nextL_len {c : List UInt8} (h : c.length = 16) : (nextL c).length = 16 := by unfold nextL; rw [ctrUp_len, h]
theorem up_one (x : UInt8) : (ub x + 1) % 256 = ub (x + 1) := byte_all (P := fun x => (ub x + 1) % 256 = ub (x + 1)) (by decide +kernel) x
theorem up_zero (x : UInt8) : (ub x != 0) = !decide (x = 0) := byte_all (P := fun x => (ub x != 0) = !decide (x = 0)) (by decide +kernel) x
theorem gB_set {l : List UInt8} {i : Nat} (x : UInt8) (h : i < l.length) : gB (l.set i x) i = x := by
  unfold gB
  rw [List.getD_eq_getElem?_getD, List.getElem?_set_self h]
  rfl
theorem ctrUp_stop {c : List UInt8} {k : Nat} (h : gB c k + 1 ≠ 0) : ctrUp c k = c.set k (gB c k + 1) := by
  cases k with
  | zero => rfl
  | succ k => unfold ctrUp; rw [if_neg h]
theorem ctrUp_on {c : List UInt8} {k : Nat} (h : gB c (k + 1) + 1 = 0) : ctrUp c (k + 1) = ctrUp (c.set (k + 1) (gB c (k + 1) + 1)) k := by
  rw [h]
  show (if _ then _ else _) = _
  rw [if_pos h]
set_option maxRecDepth 100000 in
set_option maxHeartbeats 1000000 in
theorem ctrNext_any (l : List UInt8) (hl : l.length = 16) (w : World) : Calls Tryz.prog 142 #[arr l] w fun e w' => e = .returned (arr (nextL l)) ∧ Gr w w' := by
  unfold arr
  obtain ⟨W, hW⟩ : ∃ W, W = two16 w l := ⟨_, rfl⟩
  have hG := two16_gr w l; have hA := two16_a w l; have hB := two16_b w l
  rw [← hW] at hG hA hB
  unfold two16 at hW
  have HSL := Lib.hid (nextL_len hl)
  have HA := Lib.hid hA; have HB := Lib.hid hB; have HG := Lib.hid hG; have HW := Lib.hid hW; have HL := Lib.hid hl
  clear hA hB hG hW hl
  go_enter Tryz.func142, Tryz.ntmps142
  go_upto_region 1 with fail
  rw [← HW.out]
  obtain ⟨h, hh⟩ : ∃ h, h = w.heap.size := ⟨_, rfl⟩
  rw [← hh] at HA HB ⊢
  have HH := Lib.hid hh; clear hh
  go_wp2_with fail
  first | go_step3 | skip
  go_wp2_with fail
  first | go_step3 | skip
  go_wp2_with fail
  go_loopw [3] (fun i wr => ∃ c : List UInt8, c.length = 16 ∧ Gr w wr ∧ By wr h 151 c ∧ By wr (h + 1) 151 (List.replicate 16 0) ∧ ((∃ k : Nat, k ≤ 15 ∧ i = .int .i64 (k : Int) ∧ ctrUp c k = nextL l) ∨ (i = .int .i64 (-1) ∧ c = nextL l))) (fun i _ => (Go.RowKit.intOf i + 1).toNat)
  case atStart => exact ⟨l, HL.out, HG.out, HA.out, HB.out, .inl ⟨15, by decide, rfl, rfl⟩⟩
  case round =>
    obtain ⟨c, hcl, g, ha, hb, hor⟩ := hrel
    have GR := Lib.hid g; have HA1 := Lib.hid ha; have HB1 := Lib.hid hb; have HCL := Lib.hid hcl
    rcases hor with ⟨k, hk, rfl, hup⟩ | ⟨rfl, rfl⟩
    · have t0 : decide ((0 : Int) ≤ (k : Int)) = true := decide_eq_true (by omega)
      have p0 : (0 : Int) ≤ k := by omega
      have p1 : (k : Int) < 16 := by omega
      obtain ⟨x, hx⟩ : ∃ x, x = gB c k := ⟨_, rfl⟩
      have cc := ha.at (i := k) (by omega)
      rw [← hx] at cc
      have ff := Blk.free ha k
      have e1 := up_one x
      have hz := up_zero (x + 1)
      have HC2 : Hid (By (wr.setCell ⟨h, k, none⟩ (.int .u8 (ub (x + 1)))) h 151 (c.set k (x + 1))) := ha.put k _
      have c2 := HC2.out.at (i := k) (by rw [List.length_set]; omega)
      rw [gB_set _ (by omega)] at c2
      have HUP := Lib.hid hup; have HX := Lib.hid hx; have HKK := Lib.hid hk
      have HB2 : Hid (By (wr.setCell ⟨h, k, none⟩ (.int .u8 (ub (x + 1)))) (h + 1) 151 (List.replicate 16 0)) := (Below.heap_setCell _ ⟨h, k, none⟩ _ (h + 1) (by show h + 1 ≠ h; omega)).trans hb
      have HG2 : Hid (Gr w (wr.setCell ⟨h, k, none⟩ (.int .u8 (ub (x + 1))))) := g.setCell (p := ⟨h, k, none⟩) (by rw [HH.out]; exact Nat.le_refl _) _
      have HCS : Hid ((c.set k (x + 1)).length = 16) := by show _ = _; rw [List.length_set, hcl]
      clear g ha hb hcl hup hx
      by_cases hq : x + 1 = 0
      · rw [decide_eq_true hq] at hz
        have HQ := Lib.hid hq; clear hq
        go_wp2_with fail
        go_roundw
        case rel =>
          refine ⟨c.set k (x + 1), HCS.out, HG2.out, HC2.out, HB2.out, ?_⟩
          cases k with
          | zero =>
            refine .inr ⟨by simp, ?_⟩
            rw [← HUP.out, HX.out]
            rfl
          | succ m =>
            refine .inl ⟨m, by omega, by go_num, ?_⟩
            rw [← HUP.out, HX.out, ctrUp_on (by have := HQ.out; rw [HX.out] at this; exact this)]
        case measure => simp [Go.RowKit.intOf]
      · rw [decide_eq_false hq] at hz
        have HE : Hid (c.set k (x + 1) = nextL l) := by show _ = _; rw [← HUP.out, HX.out]; exact (ctrUp_stop (by rw [← HX.out]; exact hq)).symm
        clear hq
        go_wp2_with (first
          | (refine wpList_load_row rfl 151 (.tmp 1) rfl h rfl 151 _ (0, 0) _ HC2.out Tryz.underlying151 rfl (size16 (c.set k (x + 1)) HCS.out) ?_)
          | (refine wpList_store_row rfl 151 (.tmp 2) (.tmp 17) rfl (h + 1) ((c.set k (x + 1)).map u8c).toArray rfl rfl 151 _ HB2.out (size16 (c.set k (x + 1)) HCS.out) (by rw [arr_size, arr_size, HCS.out]; rfl) (arr_one _) ?_))
        try rw [Exit.noGoto_ret]
        exact bodyPost_ret (v := arr (c.set k (x + 1))) (results_cell_row Tryz.results142 _ _ (h + 1) 151 _ (0, 0) _ rfl (By.row HB2.out) Tryz.underlying151 rfl (size16 (c.set k (x + 1)) HCS.out)) rfl ⟨congrArg (fun z => Ending.returned (arr z)) (HE.out), byRow_below HG2.out (by rw [HH.out]; exact Nat.le_succ _) _⟩
    · have t0 : decide ((0 : Int) ≤ -1) = false := by decide
      clear g ha hb hcl
      go_wp2_with (first
        | (refine wpList_load_row rfl 151 (.tmp 1) rfl h rfl 151 _ (0, 0) _ HA1.out Tryz.underlying151 rfl (size16 (nextL l) HSL.out) ?_)
        | (refine wpList_store_row rfl 151 (.tmp 2) (.tmp 17) rfl (h + 1) ((nextL l).map u8c).toArray rfl rfl 151 _ HB1.out (size16 (nextL l) HSL.out) (by rw [arr_size, arr_size, HSL.out]; rfl) (arr_one _) ?_))
      try rw [Exit.noGoto_ret]
      exact bodyPost_ret (v := arr (nextL l)) (results_cell_row Tryz.results142 _ _ (h + 1) 151 _ (0, 0) _ rfl (By.row HB1.out) Tryz.underlying151 rfl (size16 (nextL l) HSL.out)) rfl ⟨congrArg (fun z => Ending.returned (arr z)) (rfl), byRow_below GR.out (by rw [HH.out]; exact Nat.le_succ _) _⟩
end Go.Proofs.YtcfbbgbjlgonpaaGreatDoor

/- Counters: begun. No condition. -/
namespace Go.Proofs.YtcfbbgbjlgonpaaGreatDoor
open Go.RowKit
set_option linter.unusedVariables false
set_option linter.unusedSimpArgs false
theorem wpList_copy_row {P : Program} {ops : Array Oper} {rest : List Oper} {o : Oper} {a : Act} {w : World} {Q : Exit → Act → World → Prop} (hgd : o.guard = none) (d s : Operand) (dT sT : TypeId)
    (ho : o.op = .call { callee := .builtin .copy, args := #[d, s], argTypes := #[dT, sT] }) (elem : TypeId) (hu : P.underlying dT = some (.slice elem)) (hsz : (P.info? elem).map (·.size) = some 1)
    (g off dLen dCap : Nat) (ad : Addr) (sLen sCap : Nat) (hd : a.eval d = .slice (some ⟨g, off, none⟩) dLen dCap) (hs : a.eval s = .slice (some ad) sLen sCap)
    (cur : Array Value) (t : TypeId) (hg : w.heap[g]? = some (.cells cur t (0, 0))) (cs : List Value) (hn : cs.length = Nat.min sLen dLen)
    (hsrc : ∀ j v, cs[j]? = some v → w.cell? (ad.add j) = some v) (hfit : off + cs.length ≤ cur.size) (h1 : ∀ v ∈ cs, v.oneCell' = true)
    (new : Array Value) (hnew : (cur.toList.take off ++ cs ++ cur.toList.drop (off + cs.length)).toArray = new)
    (h : wpList P ops Q rest (a.put o.dst (goInt cs.length)) (w.setRow g new)) : wpList P ops Q (o :: rest) a w :=
  wpList_plain hgd fun _ hK => wp_copy_row d s dT sT ho elem hu hsz g off dLen dCap ad sLen sCap hd hs cur t hg cs hn hsrc hfit h1 new hnew (hK _ _ h)
theorem plainRow {P : Program} {o : Oper} {a : Act} {w : World} (ty : TypeId) (x : Operand) (ho : o.op = .load ty x) (b of : Nat) (hx : a.eval x = .pointer (some ⟨b, of, none⟩)) (cs : List Value) (d : TypeDesc) (hc : w.rangeAt b of cs)
    (hu : P.underlying ty = some d) (hd : d.isRow = true) (hi : (P.info? ty).map (·.size) = some cs.length) : plainAt P o a w (.agg cs.toArray) := by
  unfold plainAt execOp
  simp only [ho, hx, Instr.loadAt, Instr.sureAddr, Sem.run_bind, Sem.run_pure, Result.andThen_ok, run_loadVar_mid w b of ty cs d hc hu hd hi]
  simp
theorem By.whole {w : World} {g : Nat} {t : TypeId} {l : List UInt8} (h : By w g t l) : w.rangeAt g 0 (l.map u8c) := fun j v hv => by
  rw [Nat.zero_add, Blk.cell h]; exact hv
theorem run_arr16 (g : Nat) (w : World) : (Instr.sliceAt 151 (.pointer (some ⟨g, 0, none⟩)) none none none).run Tryz.prog w = .ok (.slice (some ⟨g, 0, none⟩) 16 16) w := by kernel_rfl
theorem sizeKc (l : List UInt8) (hl : l.length = 240) : (Tryz.prog.info? 153).map (·.size) = some (l.map u8c).length := by rw [List.length_map, hl]; kernel_rfl
theorem results_begun {fn : Func} {p q u : Tmp} (h : fn.results = #[.cell p 153, .cell q 151, .tmp u]) (tmps : Array Value) (w : World) (g g' : Nat) (l m : List UInt8) (hl : l.length = 240) (hm : m.length = 16)
    (hp : tmps.getD p undef = .pointer (some ⟨g, 0, none⟩)) (hq : tmps.getD q undef = .pointer (some ⟨g', 0, none⟩)) (hg : By w g 153 l) (hg' : By w g' 151 m) :
    (results fn tmps).run Tryz.prog w = .ok (.tuple #[arr l, arr m, tmps.getD u undef]) w := by
  have h1 := run_loadVar_row w g 153 153 (l.map u8c).toArray (0, 0) _ hg Tryz.underlying153 rfl (sizeK l hl)
  have h2 := run_loadVar_row w g' 151 151 (m.map u8c).toArray (0, 0) _ hg' Tryz.underlying151 rfl (size16 m hm)
  have hp' : tmps[p]?.getD undef = .pointer (some ⟨g, 0, none⟩) := by simpa using hp
  have hq' : tmps[q]?.getD undef = .pointer (some ⟨g', 0, none⟩) := by simpa using hq
  simp only [results, h]
  simp [Sem.run_bind, Result.andThen, hp', hq', asAddr, h1, h2, arr]
set_option maxRecDepth 100000 in
set_option maxHeartbeats 2000000 in
theorem ctrBegun_any (A B : Option Addr) (c d : Nat) (key nonce : List UInt8) (w : World) (hk : Bs w A 32 c key) (hn : Bs w B 16 d nonce) :
    Calls Tryz.prog 139 #[.slice A 32 c, .slice B 16 d] w fun e w' => e = .returned (.tuple #[arr (schedL key), arr nonce, .int .i64 0]) ∧ Gr w w' := by
  have hkl : key.length = 32 := hk.len
  have hnl : nonce.length = 16 := hn.len
  obtain ⟨b, o, rfl, _⟩ := Sl.addr hn (by decide)
  have HK := Lib.hid hk; have HN := Lib.hid hn; have HKL := Lib.hid hkl; have HNL := Lib.hid hnl
  have HSL := Lib.hid (schedL_len hkl)
  clear hk hn hkl hnl
  go_enter Tryz.func139, Tryz.ntmps139
  go_upto_region 1 with fail
  obtain ⟨W2, hW2⟩ : ∃ W2, W2 = (w.alloc (.cells (reps 240 (.int .u8 0)).toArray 153)).alloc (.cells z16.toArray 151) := ⟨_, rfl⟩
  first | rw [← hW2] | (change Code.wp _ _ _ _ ((w.alloc (.cells (reps 240 (.int .u8 0)).toArray 153)).alloc (.cells z16.toArray 151)); rw [← hW2])
  obtain ⟨h, hh⟩ : ∃ h, h = w.heap.size := ⟨_, rfl⟩
  have HZ1 : Hid (By W2 h 153 (List.replicate 240 0)) := by rw [hW2, hh]; exact (Gr.alloc _ _).blk (show By (w.alloc (.cells (reps 240 (.int .u8 0)).toArray 153)) w.heap.size _ _ from heap_alloc_new w _)
  have HZ2 : Hid (By W2 (h + 1) 151 (List.replicate 16 0)) := by rw [hW2, hh]; exact heap_alloc2_new w _ _
  have HG2 : Hid (Gr w W2) := by rw [hW2]; exact (Gr.alloc _ _).trans (Gr.alloc _ _)
  rw [← hh]
  have HH := Lib.hid hh; clear hh hW2
  have HSC := Lib.hid (aesSchedule_any A c key W2 (HK.out.mono HG2.out))
  go_upto_region 4 with (first
    | (go_at_call 161; refine HSC.out.mono ?_; rintro e w3 ⟨rfl, g3⟩; have G3 : Hid (Gr w w3) := HG2.out.trans g3; have HZ3 : Hid (By w3 h 153 (List.replicate 240 0)) := g3.blk HZ1.out; have HY3 : Hid (By w3 (h + 1) 151 (List.replicate 16 0)) := g3.blk HZ2.out; clear g3; unfold arr)
    | (refine wpList_store_row rfl 153 (.tmp 4) (.tmp 15) rfl h ((schedL key).map u8c).toArray rfl rfl 153 _ HZ3.out (sizeK _ HSL.out) (by rw [arr_size, arr_size, HSL.out]; rfl) (arr_one _) ?_))
  obtain ⟨F, hF⟩ : ∃ F, F = schedL key := ⟨_, rfl⟩
  rw [← hF] at HSL ⊢
  have HFE := Lib.hid hF; clear hF
  obtain ⟨W4, hW4⟩ : ∃ W4, W4 = w3.setRow h (F.map u8c).toArray := ⟨_, rfl⟩
  have HF4 : Hid (By W4 h 153 F) := by rw [hW4]; exact HZ3.out.row
  have HY4 : Hid (By W4 (h + 1) 151 (List.replicate 16 0)) := by rw [hW4]; exact (setRow_other w3 h (h + 1) _ (by omega)).trans HY3.out
  have HG4 : Hid (Gr w W4) := by rw [hW4]; exact byRow_below G3.out (Nat.le_of_eq HH.out.symm) _
  rw [← hW4]
  clear hW4 HZ3 HY3 G3 HZ1 HZ2 HG2
  have hx := run_arr16 (h + 1)
  have HSRC : Hid (∀ j v, (nonce.map u8c)[j]? = some v → W4.cell? ((⟨b, o, none⟩ : Addr).add j) = some v) := fun j v hv => by
    rw [Addr.add_mid]
    obtain ⟨b', o', e, hc⟩ := Sl.addr (HN.out.mono HG4.out) (by decide)
    injection e with e
    injection e with e1 e2
    subst e1 e2
    exact hc j v hv
  have hcp := run_copy_row (P := Tryz.prog) W4 28 28 3 5 (h + 1) 0 16 16 ⟨b, o, none⟩ 16 d ((List.replicate 16 (0 : UInt8)).map u8c).toArray 151 (nonce.map u8c) Tryz.underlying28 (by kernel_rfl) HY4.out (by rw [List.length_map, HNL.out]; rfl) HSRC.out (by rw [List.length_map, HNL.out, arr_size]; decide) (bytes_one _)
  rw [HY4.out.spliced 0, HNL.out, show ((List.replicate 16 (0 : UInt8)).take 0 ++ nonce ++ (List.replicate 16 (0 : UInt8)).drop (0 + 16)) = nonce by simp] at hcp
  go_upto_region 5 with fail
  obtain ⟨W5, hW5⟩ : ∃ W5, W5 = W4.setRow (h + 1) (nonce.map u8c).toArray := ⟨_, rfl⟩
  have HF5 : Hid (By W5 h 153 F) := by rw [hW5]; exact (setRow_other W4 (h + 1) h _ (by omega)).trans HF4.out
  have HN5 : Hid (By W5 (h + 1) 151 nonce) := by rw [hW5]; exact HY4.out.row
  have HG5 : Hid (Gr w W5) := by rw [hW5]; exact byRow_below HG4.out (by rw [HH.out]; exact Nat.le_succ _) _
  rw [← hW5]
  clear hW5 hcp hx HF4 HY4 HSRC HG4
  refine wp_region_pre (by kernel_rfl) (fun w' => By w' h 153 F ∧ By w' (h + 1) 151 nonce) (fun i => i == 0 || i == 1) (fun _ => false) [2, 0, 1] 3 (by kernel_rfl) (by kernel_rfl) (by kernel_rfl) ⟨HF5.out, HN5.out⟩ ?_
  refine wpPre_e rfl rfl ?_
  apply Exists.intro
  refine ⟨fun wq hq => ?_, ?_⟩
  · clear hq
    unfold plainAt
    go_simp
    first | exact rfl | exact ⟨rfl, rfl⟩
  go_simp
  refine wpPre_e rfl rfl ⟨.agg (F.map u8c).toArray, fun wq hq => plainRow 153 (.tmp 4) rfl h 0 rfl _ _ (By.whole (hq rfl).1) Tryz.underlying153 rfl (sizeKc _ HSL.out), ?_⟩
  go_simp
  refine wpPre_e rfl rfl ⟨.agg (nonce.map u8c).toArray, fun wq hq => plainRow 151 (.tmp 5) rfl (h + 1) 0 rfl _ _ (By.whole (hq rfl).2) Tryz.underlying151 rfl (size16c _ HNL.out), ?_⟩
  go_simp
  refine wpPre_nil ?_
  obtain ⟨w7, hw7⟩ : ∃ w7, w7 = W5.drew := ⟨_, rfl⟩
  have HF7 : Hid (By w7 h 153 F) := by rw [hw7]; exact (Gr.drew _).blk HF5.out
  have HN7 : Hid (By w7 (h + 1) 151 nonce) := by rw [hw7]; exact (Gr.drew _).blk HN5.out
  have HG7 : Hid (Gr w w7) := by rw [hw7]; exact HG5.out.trans (Gr.drew _)
  rw [← hw7]
  clear hw7
  refine wpRest_one (i := 3) (by kernel_rfl) rfl rfl ?_
  intro K hK
  refine wp_store_row 153 (.tmp 4) (.tmp 20) rfl h (F.map u8c).toArray rfl rfl 153 _ HF7.out (sizeK _ HSL.out) rfl (arr_one _) ?_
  obtain ⟨W8, hW8⟩ : ∃ W8, W8 = w7.setRow h (F.map u8c).toArray := ⟨_, rfl⟩
  have HF8 : Hid (By W8 h 153 F) := by rw [hW8]; exact HF7.out.row
  have HN8 : Hid (By W8 (h + 1) 151 nonce) := by rw [hW8]; exact (setRow_other w7 h (h + 1) _ (by omega)).trans HN7.out
  have HG8 : Hid (Gr w W8) := by rw [hW8]; exact byRow_below HG7.out (Nat.le_of_eq HH.out.symm) _
  rw [← hW8]
  clear hW8
  refine hK _ _ (fun _ => ⟨HF8.out, HN8.out⟩) ?_
  clear hK
  go_simp
  refine wpRest_one (i := 4) (by kernel_rfl) rfl rfl ?_
  intro K hK
  refine wp_store_row 151 (.tmp 5) (.tmp 21) rfl (h + 1) (nonce.map u8c).toArray rfl rfl 151 _ HN8.out (size16 _ HNL.out) rfl (arr_one _) ?_
  obtain ⟨W10, hW10⟩ : ∃ W10, W10 = W8.setRow (h + 1) (nonce.map u8c).toArray := ⟨_, rfl⟩
  have HF10 : Hid (By W10 h 153 F) := by rw [hW10]; exact (setRow_other W8 (h + 1) h _ (by omega)).trans HF8.out
  have HN10 : Hid (By W10 (h + 1) 151 nonce) := by rw [hW10]; exact HN8.out.row
  have HG10 : Hid (Gr w W10) := by rw [hW10]; exact byRow_below HG8.out (by rw [HH.out]; exact Nat.le_succ _) _
  rw [← hW10]
  clear hW10
  refine hK _ _ (fun _ => ⟨HF10.out, HN10.out⟩) ?_
  clear hK
  go_simp
  refine wpRest_one (i := 5) (by kernel_rfl) rfl rfl ?_
  intro K hK
  go_simp
  refine hK _ _ (fun _ => ⟨HF10.out, HN10.out⟩) ?_
  clear hK
  go_simp
  refine wpRest_nil (by kernel_rfl) ?_
  go_wp2_with fail
  exact bodyPost_ret (v := .tuple #[arr F, arr nonce, .int .i64 0]) (results_begun Tryz.results139 _ _ h (h + 1) F nonce HSL.out HNL.out rfl rfl HF10.out HN10.out) rfl ⟨congrArg (fun z => Ending.returned (.tuple #[arr z, arr nonce, .int .i64 0])) HFE.out, HG10.out⟩
end Go.Proofs.YtcfbbgbjlgonpaaGreatDoor
