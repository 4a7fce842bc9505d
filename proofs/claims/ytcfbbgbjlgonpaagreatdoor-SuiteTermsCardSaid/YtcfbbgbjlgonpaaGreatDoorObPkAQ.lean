/- Own texts of this claim, one behind the other. No condition. -/
import Derived.Test.YtcfbbgbjlgonpaaGreatDoorObPkAL
import Derived.Test.YtcfbbgbjlgonpaaGreatDoorObPkAO
import Derived.Test.YtcfbbgbjlgonpaaGreatDoorObPkAP

/- The reference of layer 17, of terms: Term, bytes. No condition. -/
namespace Go.Proofs.YtcfbbgbjlgonpaaGreatDoor
open Go.RowKit
set_option linter.unusedVariables false
set_option linter.unusedSimpArgs false
def tw1 (w : World) (A : Option Addr) (n c : Nat) (B : Option Addr) (m e : Nat) : World := w.alloc (.cells #[.bool false, .slice none 0 0, .int .i64 0, .slice A n c, .slice B m e] 33)
theorem tw1_a (w : World) (A : Option Addr) (n c : Nat) (B : Option Addr) (m e : Nat) : Xk (tw1 w A n c B m e) w.heap.size (ts A n c B m e) := heap_alloc_new w _
theorem tw1_g (w : World) (A : Option Addr) (n c : Nat) (B : Option Addr) (m e : Nat) : Gr w (tw1 w A n c B m e) := Gr.alloc _ _
set_option maxRecDepth 100000 in
set_option maxHeartbeats 1000000 in
theorem refTerm_any (A B D : Option Addr) (n c m e0 q0 f : Nat) (T : List Nd) (b : List UInt8) (w : World) (hT : RTb w A n c T) (hK : Kinds T) (hn : n ≤ 1000) (hb : Bs w D q0 f b) :
    Calls Tryz.prog 31 #[tv A n c B m e0, .slice D q0 f] w fun e w' => e = .returned (.int .i64 (termB T b : Int)) ∧ Gr w w' := by
  unfold tv
  show Calls _ _ #[.agg #[.bool false, .slice none 0 0, .int .i64 0, .slice A n c, .slice B m e0], _] _ _
  have hcp := hb.cap; have hmx := hb.max
  have hl : b.length = q0 := hb.len
  have hTl : T.length = n := hT.1
  have hcT := hT.cap; have hmT := hT.max
  by_cases h32 : q0 = 32
  · subst h32
    rw [term_ref hK b hl, hTl]
    obtain ⟨bb, oo, rfl, hcc⟩ := hb.addr (by omega)
    have hsub : Bs w (some ⟨bb, oo + 8, none⟩) 8 (f - 8) ((b.drop 8).take 8) := by
      have h1 := hb.from (A' := some ⟨bb, oo + 8, none⟩) (k := 8) (by omega) (fun _ b' o' e => by injection e with e; injection e with e1 e2; subst e1 e2; rfl)
      have h2 := h1.upto (k := 8) (by omega)
      rwa [← List.map_drop, ← List.map_take] at h2
    have hlen8 : ((b.drop 8).take 8).length = 8 := by simp; omega
    have hgl : getL ((b.drop 8).take 8) < 18446744073709551616 := by have := getL_lt ((b.drop 8).take 8); rw [hlen8] at this; omega
    have hx := run_8to16 bb oo 32 f (by omega)
    have HGT := Lib.hid (fun W (hW : Gr w W) => refGet_yes (some ⟨bb, oo + 8, none⟩) 8 (f - 8) ((b.drop 8).take 8) W (hsub.mono hW) (by decide) (by decide))
    have HB := Lib.hid hb; have HT := Lib.hid hT
    clear hsub hcc hlen8 hb hT hl
    generalize getL ((b.drop 8).take 8) = q at *
    have hwn : IntKind.u64.wrap (n : Int) = n := IntWalk.u64_in _ (by omega)
    by_cases h1 : q < 1
    · have t1 : decide ((q : Int) < 1) = true := decide_eq_true (by omega)
      rw [if_neg (by omega)]
      obtain ⟨W, hW⟩ : ∃ W, W = tw1 w A n c B m e0 := ⟨_, rfl⟩
      have HX := Lib.hid (tw1_a w A n c B m e0); have HG := Lib.hid (tw1_g w A n c B m e0)
      rw [← hW] at HX HG
      unfold tw1 at hW
      have HW := Lib.hid hW
      clear hW
      go_enter Tryz.func31, Tryz.ntmps31
      go_upto_region 1 with fail
      rw [← HW.out]
      obtain ⟨h, hh⟩ : ∃ h, h = w.heap.size := ⟨_, rfl⟩
      rw [← hh] at HX ⊢
      have HH := Lib.hid hh; clear hh
      have c0 : W.cell? ⟨h, 0, none⟩ = some (.bool false) := HX.out.cell 0
      have c3 : W.cell? ⟨h, 3, none⟩ = some (.slice A n c) := HX.out.cell 3
      have c4 : W.cell? ⟨h, 4, none⟩ = some (.slice B m e0) := HX.out.cell 4
      go_wp2_with fail
      refine (HGT.out W HG.out).mono ?_
      rintro e w1 ⟨rfl, h1⟩
      rw [← h1]
      clear h1 w1
      go_wp2_with fail
      go_ret
      exact ⟨rfl, HG.out⟩
    have t1 : decide ((q : Int) < 1) = false := decide_eq_false (by omega)
    by_cases h2 : n < q
    · have t2 : decide ((n : Int) < (q : Int)) = true := decide_eq_true (by omega)
      rw [if_neg (by omega)]
      obtain ⟨W, hW⟩ : ∃ W, W = tw1 w A n c B m e0 := ⟨_, rfl⟩
      have HX := Lib.hid (tw1_a w A n c B m e0); have HG := Lib.hid (tw1_g w A n c B m e0)
      rw [← hW] at HX HG
      unfold tw1 at hW
      have HW := Lib.hid hW
      clear hW
      go_enter Tryz.func31, Tryz.ntmps31
      go_upto_region 1 with fail
      rw [← HW.out]
      obtain ⟨h, hh⟩ : ∃ h, h = w.heap.size := ⟨_, rfl⟩
      rw [← hh] at HX ⊢
      have HH := Lib.hid hh; clear hh
      have c0 : W.cell? ⟨h, 0, none⟩ = some (.bool false) := HX.out.cell 0
      have c3 : W.cell? ⟨h, 3, none⟩ = some (.slice A n c) := HX.out.cell 3
      have c4 : W.cell? ⟨h, 4, none⟩ = some (.slice B m e0) := HX.out.cell 4
      go_wp2_with fail
      refine (HGT.out W HG.out).mono ?_
      rintro e w1 ⟨rfl, h1⟩
      rw [← h1]
      clear h1 w1
      go_wp2_with fail
      go_ret
      exact ⟨rfl, HG.out⟩
    have t2 : decide ((n : Int) < (q : Int)) = false := decide_eq_false (by omega)
    have hwq : IntKind.i64.wrap (q : Int) = q := IntWalk.i64_in _ (by omega)
    have HKD := Lib.hid (fun W (hW : Gr w W) => refKind_any A n c T (q : Int) W (HT.out.mono hW))
    generalize kindOf T (q : Int) = kd at *
    by_cases h3 : kd = 2
    · have t3 : ((kd : Int) == 2) = true := by rw [beq_iff_eq]; omega
      rw [if_neg (fun x => x.2.2.1 h3)]
      obtain ⟨W, hW⟩ : ∃ W, W = tw1 w A n c B m e0 := ⟨_, rfl⟩
      have HX := Lib.hid (tw1_a w A n c B m e0); have HG := Lib.hid (tw1_g w A n c B m e0)
      rw [← hW] at HX HG
      unfold tw1 at hW
      have HW := Lib.hid hW
      clear hW
      go_enter Tryz.func31, Tryz.ntmps31
      go_upto_region 1 with fail
      rw [← HW.out]
      obtain ⟨h, hh⟩ : ∃ h, h = w.heap.size := ⟨_, rfl⟩
      rw [← hh] at HX ⊢
      have HH := Lib.hid hh; clear hh
      have c0 : W.cell? ⟨h, 0, none⟩ = some (.bool false) := HX.out.cell 0
      have c3 : W.cell? ⟨h, 3, none⟩ = some (.slice A n c) := HX.out.cell 3
      have c4 : W.cell? ⟨h, 4, none⟩ = some (.slice B m e0) := HX.out.cell 4
      go_wp2_with fail
      refine (HGT.out W HG.out).mono ?_
      rintro e w1 ⟨rfl, h1⟩
      rw [← h1]
      clear h1 w1
      go_wp2_with fail
      refine (HKD.out W HG.out).mono ?_
      rintro e w1 ⟨rfl, rfl⟩
      go_wp2_with fail
      go_ret
      exact ⟨rfl, HG.out⟩
    have t3 : ((kd : Int) == 2) = false := by rw [beq_eq_false_iff_ne]; omega
    have HHD := Lib.hid (fun W => refHandle_any q W (by omega))
    have HV : Hid (∀ v, (b == handleL q) = v → (if 1 ≤ q ∧ q ≤ n ∧ kd ≠ 2 ∧ b = handleL q then q else 0) = if v = true then q else 0) := fun v hv => by
      cases v with
      | true => rw [if_pos ⟨by omega, by omega, h3, beq_iff_eq.1 hv⟩, if_pos rfl]
      | false => rw [if_neg (fun x => (beq_eq_false_iff_ne.1 hv) x.2.2.2), if_neg (by decide)]
    cases hv : b == handleL q with
    | true =>
      rw [HV.out _ hv, if_pos rfl]
      have HVV := Lib.hid hv
      clear hv HV h3
      obtain ⟨W, hW⟩ : ∃ W, W = tw1 w A n c B m e0 := ⟨_, rfl⟩
      have HX := Lib.hid (tw1_a w A n c B m e0); have HG := Lib.hid (tw1_g w A n c B m e0)
      rw [← hW] at HX HG
      unfold tw1 at hW
      have HW := Lib.hid hW
      clear hW
      go_enter Tryz.func31, Tryz.ntmps31
      go_upto_region 1 with fail
      rw [← HW.out]
      obtain ⟨h, hh⟩ : ∃ h, h = w.heap.size := ⟨_, rfl⟩
      rw [← hh] at HX ⊢
      have HH := Lib.hid hh; clear hh
      have c0 : W.cell? ⟨h, 0, none⟩ = some (.bool false) := HX.out.cell 0
      have c3 : W.cell? ⟨h, 3, none⟩ = some (.slice A n c) := HX.out.cell 3
      have c4 : W.cell? ⟨h, 4, none⟩ = some (.slice B m e0) := HX.out.cell 4
      go_wp2_with fail
      refine (HGT.out W HG.out).mono ?_
      rintro e w1 ⟨rfl, h1⟩
      rw [← h1]
      clear h1 w1
      go_wp2_with fail
      refine (HKD.out W HG.out).mono ?_
      rintro e w1 ⟨rfl, rfl⟩
      go_wp2_with fail
      refine (HHD.out w1).mono ?_
      rintro e w2 ⟨v2, rfl, o2⟩
      rw [handleL_len] at o2
      obtain ⟨A2, c2, rfl, s2⟩ := o2.slice
      have G2 := Lib.hid (Gr.trans HG.out o2.below)
      have HSM := Lib.hid (refSame_any _ A2 32 32 f c2 b (handleL q) w2 (HB.out.mono G2.out) s2)
      rw [HVV.out] at HSM
      clear o2 s2
      go_wp2_with fail
      refine HSM.out.mono ?_
      rintro e w3 ⟨rfl, k3, rfl⟩
      go_wp2_with fail
      go_ret
      exact ⟨rfl, belowN G2.out k3⟩
    | false =>
      rw [HV.out _ hv, if_neg (by decide)]
      have HVV := Lib.hid hv
      clear hv HV h3
      obtain ⟨W, hW⟩ : ∃ W, W = tw1 w A n c B m e0 := ⟨_, rfl⟩
      have HX := Lib.hid (tw1_a w A n c B m e0); have HG := Lib.hid (tw1_g w A n c B m e0)
      rw [← hW] at HX HG
      unfold tw1 at hW
      have HW := Lib.hid hW
      clear hW
      go_enter Tryz.func31, Tryz.ntmps31
      go_upto_region 1 with fail
      rw [← HW.out]
      obtain ⟨h, hh⟩ : ∃ h, h = w.heap.size := ⟨_, rfl⟩
      rw [← hh] at HX ⊢
      have HH := Lib.hid hh; clear hh
      have c0 : W.cell? ⟨h, 0, none⟩ = some (.bool false) := HX.out.cell 0
      have c3 : W.cell? ⟨h, 3, none⟩ = some (.slice A n c) := HX.out.cell 3
      have c4 : W.cell? ⟨h, 4, none⟩ = some (.slice B m e0) := HX.out.cell 4
      go_wp2_with fail
      refine (HGT.out W HG.out).mono ?_
      rintro e w1 ⟨rfl, h1⟩
      rw [← h1]
      clear h1 w1
      go_wp2_with fail
      refine (HKD.out W HG.out).mono ?_
      rintro e w1 ⟨rfl, rfl⟩
      go_wp2_with fail
      refine (HHD.out w1).mono ?_
      rintro e w2 ⟨v2, rfl, o2⟩
      rw [handleL_len] at o2
      obtain ⟨A2, c2, rfl, s2⟩ := o2.slice
      have G2 := Lib.hid (Gr.trans HG.out o2.below)
      have HSM := Lib.hid (refSame_any _ A2 32 32 f c2 b (handleL q) w2 (HB.out.mono G2.out) s2)
      rw [HVV.out] at HSM
      clear o2 s2
      go_wp2_with fail
      refine HSM.out.mono ?_
      rintro e w3 ⟨rfl, k3, rfl⟩
      go_wp2_with fail
      go_ret
      exact ⟨rfl, belowN G2.out k3⟩
  · have t1 : ((q0 : Int) != 32) = true := by rw [bne_iff_ne]; omega
    have e0' : termB T b = 0 := by unfold termB; rw [if_neg (fun x => h32 (by rw [← hl]; exact x.1))]
    rw [e0']
    clear hb hT e0'
    obtain ⟨W, hW⟩ : ∃ W, W = tw1 w A n c B m e0 := ⟨_, rfl⟩
    have HX := Lib.hid (tw1_a w A n c B m e0); have HG := Lib.hid (tw1_g w A n c B m e0)
    rw [← hW] at HX HG
    unfold tw1 at hW
    have HW := Lib.hid hW
    clear hW
    go_enter Tryz.func31, Tryz.ntmps31
    go_upto_region 1 with fail
    rw [← HW.out]
    obtain ⟨h, hh⟩ : ∃ h, h = w.heap.size := ⟨_, rfl⟩
    rw [← hh] at HX ⊢
    have HH := Lib.hid hh; clear hh
    have c0 : W.cell? ⟨h, 0, none⟩ = some (.bool false) := HX.out.cell 0
    have c3 : W.cell? ⟨h, 3, none⟩ = some (.slice A n c) := HX.out.cell 3
    have c4 : W.cell? ⟨h, 4, none⟩ = some (.slice B m e0) := HX.out.cell 4
    go_wp2_with fail
    go_ret
    exact ⟨rfl, HG.out⟩
end Go.Proofs.YtcfbbgbjlgonpaaGreatDoor

/- The reference of layer 17, of terms: the term of bytes, which comes to be. No condition. -/
namespace Go.Proofs.YtcfbbgbjlgonpaaGreatDoor
open Go.RowKit
set_option linter.unusedVariables false
set_option linter.unusedSimpArgs false
theorem size5 (cs : List Value) (h : cs.length = 5) : (Tryz.prog.info? 33).map (·.size) = some cs.toArray.size := by rw [List.size_toArray, h]; kernel_rfl
theorem size5c (cs : List Value) (h : cs.length = 5) : (Tryz.prog.info? 33).map (·.size) = some cs.length := by rw [h]; kernel_rfl
theorem results_5 {fn : Func} {p u : Tmp} (h : fn.results = #[.cell p 33, .tmp u]) (tmps : Array Value) (w : World) (g : Nat) (cs : List Value) (h5 : cs.length = 5)
    (hp : tmps.getD p undef = .pointer (some ⟨g, 0, none⟩)) (hg : Xk w g cs) :
    (results fn tmps).run Tryz.prog w = .ok (.tuple #[.agg cs.toArray, tmps.getD u undef]) w := by
  rw [results_cell_tmp h, hp]
  simp only [asAddr, Sem.run_pure, Result.andThen, run_loadVar_row w g 33 33 cs.toArray (0, 0) _ hg Tryz.underlying33 rfl (size5 cs h5)]
theorem oneT (A : Option Addr) (n c : Nat) (B : Option Addr) (m e : Nat) : (ts A n c B m e).toArray.all (·.oneCell') = true := by simp [ts, Value.oneCell']
theorem ts_not (A : Option Addr) (n c : Nat) (B : Option Addr) (m e : Nat) : ∀ u ∈ ts A n c B m e, ∀ x : UInt8, u ≠ u8c x := fun u hu x e => by
  subst e
  simp [ts, u8c] at hu
def tw2 (w : World) (A : Option Addr) (n c : Nat) (B : Option Addr) (m e : Nat) : World := (w.alloc (.cells #[.bool false, .slice none 0 0, .int .i64 0, .slice A n c, .slice B m e] 33)).alloc (.cells #[.bool false, .slice none 0 0, .int .i64 0, .slice none 0 0, .slice none 0 0] 33)
theorem tw2_m (w : World) (A : Option Addr) (n c : Nat) (B : Option Addr) (m e : Nat) : XM w w.heap.size (ts A n c B m e) xz (tw2 w A n c B m e) := ⟨(Gr.alloc _ _).trans (Gr.alloc _ _), (Gr.alloc _ _).blk (heap_alloc_new w _), heap_alloc2_new w _ _⟩
theorem Xk.turn1 {w w' : World} {v v' : Value} {h : Nat} {cs : List Value} {w0 : World} {T : List Nd} (hk : Xk w h cs) (hr : RTo w0 w v T) (t : Turn1 w w' v v') : Xk w' h cs := (t.keep h (Blk.lt hk) (Own.not_blk hr hk (by decide))).trans hk
theorem Turn1.tch {w w' : World} {v v' : Value} (t : Turn1 w w' v v') (h : Below 0 w w') : Tch (fun b => v.ownBlock = some b) w w' := ⟨h, fun b hb hn => t.keep b hb hn⟩
def RetOfR (w0 w : World) (v : Value) (B : Option Addr) (m e0 : Nat) (r : List Nd × Nat) (e : Ending) (w' : World) : Prop :=
  ∃ A' c', e = .returned (.tuple #[tv A' r.1.length c' B m e0, .int .i64 (r.2 : Int)]) ∧ RTo w0 w' (.slice A' r.1.length c') r.1 ∧ Turn1 w w' v (.slice A' r.1.length c')
theorem ofT_put {T : List Nd} {b : List UInt8} (h : ¬ 0 < termB T b) : ofT T b = putR T 2 0 0 ⟨b.toArray⟩ := by
  unfold ofT putR
  rw [if_neg h, if_neg (by omega), putT_eq (by rfl)]
  rfl
set_option maxRecDepth 100000 in
set_option maxHeartbeats 1000000 in
theorem refOf_any (w0 : World) (A B D : Option Addr) (c m e0 q0 f : Nat) (T : List Nd) (b : List UInt8) (w : World) (hr : RTo w0 w (.slice A T.length c) T) (hK : Kinds T) (hz : NZ T) (hn : T.length ≤ 1000) (hb : Bs w D q0 f b) :
    Calls Tryz.prog 101 #[tv A T.length c B m e0, .slice D q0 f] w (RetOfR w0 w (.slice A T.length c) B m e0 (ofT T b)) := by
  obtain ⟨A1', c1', hv, hrs⟩ := Own.rs hr
  injection hv with hv1 _ hv3
  subst hv1 hv3
  obtain ⟨W, hW⟩ : ∃ W, W = tw2 w A T.length c B m e0 := ⟨_, rfl⟩
  have M0 := Lib.hid (tw2_m w A T.length c B m e0)
  rw [← hW] at M0
  have HR0 := Lib.hid (hr.mono M0.out.gr)
  have HLE : Hid (w0.heap.size ≤ w.heap.size) := hr.below.size
  have HB0 : Hid (Bs W D q0 f b) := hb.mono M0.out.gr
  have HTE := Lib.hid (refTerm_any A B D T.length c m e0 q0 f T b W (hrs.mono M0.out.gr) hK hn HB0.out)
  have hcp := hb.cap; have hmx := hb.max
  unfold tw2 at hW
  have HW := Lib.hid hW
  unfold tv at HTE ⊢
  show Calls _ _ #[.agg #[.bool false, .slice none 0 0, .int .i64 0, .slice A T.length c, .slice B m e0], _] _ _
  obtain ⟨n, hn'⟩ : ∃ n, n = T.length := ⟨_, rfl⟩
  have HNN := Lib.hid hn'
  have HTB : Hid (termB T b ≤ 1000) := Nat.le_trans (termB_le T b) hn
  have HKK := Lib.hid hK; have HZZ := Lib.hid hz; have HN1 := Lib.hid hn
  clear hW hr hb hrs hK hz hn hn'
  by_cases ht : 0 < termB T b
  · have hof : ofT T b = (T, termB T b) := if_pos ht
    obtain ⟨q, hq⟩ : ∃ q, q = termB T b := ⟨_, rfl⟩
    rw [hof]
    rw [← hq] at HTE HTB ht ⊢
    have t1 : ((q : Int) == 0) = false := by rw [beq_eq_false_iff_ne]; omega
    clear hof hq
    go_enter Tryz.func101, Tryz.ntmps101
    go_upto_region 1 with fail
    rw [← HW.out]
    obtain ⟨h, hh⟩ : ∃ h, h = w.heap.size := ⟨_, rfl⟩
    rw [← hh] at M0 ⊢
    have HH := Lib.hid hh; clear hh
    go_upto_region 6 with (first
      | (refine wpList_load_row rfl 33 (.tmp 2) rfl h rfl 33 (ts A T.length c B m e0).toArray (0, 0) _ M0.out.a Tryz.underlying33 rfl (size5 _ rfl) ?_)
      | (go_at_call 31; refine HTE.out.mono ?_; rintro e w1 ⟨rfl, g1⟩; have M1 := Lib.hid (M0.out.mono g1); have G1 := Lib.hid g1; clear g1))
    go_wp2_with (first
      | (refine wpList_load_row rfl 33 (.tmp 2) rfl h rfl 33 (ts A T.length c B m e0).toArray (0, 0) _ M1.out.a Tryz.underlying33 rfl (size5 _ rfl) ?_)
      | (refine wpList_store_row rfl 33 (.tmp 4) (.tmp 26) rfl (h + 1) (ts A T.length c B m e0).toArray rfl rfl 33 xz.toArray M1.out.b (size5 _ rfl) rfl (oneT _ _ _ _ _ _) ?_))
    have M3 := M1.out.ret (Nat.le_of_eq HH.out.symm) (ts A T.length c B m e0)
    have R3 : RTo w0 (w1.setRow (h + 1) (ts A T.length c B m e0).toArray) (.slice A T.length c) T := Own.tch (HR0.out.mono G1.out) (Tch.rowC (S := fun u => u = h + 1) (h + 1) _ rfl) (fun u e => by rw [e]; have h1 := HLE.out; have h2 := HH.out; omega) (fun u hu e => Own.not_blk (HR0.out.mono G1.out) M1.out.b (by decide) (by rw [hu, e]))
    exact bodyPost_ret (v := .tuple #[.agg (ts A T.length c B m e0).toArray, .int .i64 (q : Int)]) (results_5 Tryz.results101 _ _ (h + 1) (ts A T.length c B m e0) rfl rfl M3.b) rfl ⟨A, c, rfl, R3, Turn1.gr M3.gr _⟩
  · have hof := ofT_put ht
    have e0' : termB T b = 0 := by omega
    rw [e0'] at HTE
    obtain ⟨r, hrr⟩ : ∃ r, r = putR T 2 0 0 ⟨b.toArray⟩ := ⟨_, rfl⟩
    rw [hof, ← hrr]
    have HPU := Lib.hid (fun W' (g : Gr W W') => refTermPut_any w0 T (.slice A T.length c) 2 0 0 ⟨b.toArray⟩ W' (HR0.out.mono g) HN1.out HZZ.out (.inl ⟨rfl, rfl, rfl⟩))
    rw [← hrr] at HPU
    have hcv := fun W' (g : Gr W W') => run_bytes_string Tryz.underlying28 Tryz.underlying5 Tryz.underlying9 (Sl.mono HB0.out g)
    have HCV := Lib.hid hcv
    clear hof hrr e0' hcv ht
    go_enter Tryz.func101, Tryz.ntmps101
    go_upto_region 1 with fail
    rw [← HW.out]
    obtain ⟨h, hh⟩ : ∃ h, h = w.heap.size := ⟨_, rfl⟩
    rw [← hh] at M0 ⊢
    have HH := Lib.hid hh; clear hh
    go_upto_region 3 with (first
      | (refine wpList_load_row rfl 33 (.tmp 2) rfl h rfl 33 (ts A T.length c B m e0).toArray (0, 0) _ M0.out.a Tryz.underlying33 rfl (size5 _ rfl) ?_)
      | (go_at_call 31; refine HTE.out.mono ?_; rintro e w1 ⟨rfl, g1⟩; have M1 := Lib.hid (M0.out.mono g1); have G1 := Lib.hid g1; clear g1))
    have c3 : w1.cell? ⟨h, 3, none⟩ = some (.slice A T.length c) := M1.out.a.cell 3
    have cv := HCV.out w1 G1.out
    have HPV := Lib.hid (HPU.out w1 G1.out)
    go_upto_region 4 with (go_at_call 102; refine HPV.out.mono ?_; rintro e w2 ⟨v2, rfl, r2, t2⟩; obtain ⟨A2, c2, rfl⟩ := atoms_at r2; have R2 := Lib.hid r2; have T2 := Lib.hid t2; clear r2 t2)
    have X2 : Hid (Xk w2 h (ts A T.length c B m e0)) := M1.out.a.turn1 (HR0.out.mono G1.out) T2.out
    have Y2 : Hid (Xk w2 (h + 1) xz) := M1.out.b.turn1 (HR0.out.mono G1.out) T2.out
    clear c3 cv HPV HPU HCV
    have c3 : w2.cell? ⟨h, 3, none⟩ = some (.slice A T.length c) := X2.out.cell 3
    have ff := Blk.free X2.out 3
    go_upto_region 6 with fail
    have X3 : Hid (Xk (w2.setCell ⟨h, 3, none⟩ (.slice A2 r.1.length c2)) h (ts A2 r.1.length c2 B m e0)) := Blk.set X2.out 3 _
    have TT : Hid (Tch (fun u => u = h ∨ u = h + 1) w2 (w2.setCell ⟨h, 3, none⟩ (.slice A2 r.1.length c2))) := Tch.set ⟨h, 3, none⟩ _ (.inl rfl)
    have Y3 : Hid (Xk (w2.setCell ⟨h, 3, none⟩ (.slice A2 r.1.length c2)) (h + 1) xz) := (Below.heap_setCell _ ⟨h, 3, none⟩ _ (h + 1) (by show h + 1 ≠ h; omega)).trans Y2.out
    obtain ⟨w3, hw3⟩ : ∃ w3, w3 = w2.setCell ⟨h, 3, none⟩ (.slice A2 r.1.length c2) := ⟨_, rfl⟩
    rw [← hw3] at X3 Y3 TT ⊢
    clear hw3 c3 ff
    go_wp2_with (first
      | (refine wpList_load_row rfl 33 (.tmp 2) rfl h rfl 33 (ts A2 r.1.length c2 B m e0).toArray (0, 0) _ X3.out Tryz.underlying33 rfl (size5 _ rfl) ?_)
      | (refine wpList_store_row rfl 33 (.tmp 4) (.tmp 26) rfl (h + 1) (ts A2 r.1.length c2 B m e0).toArray rfl rfl 33 xz.toArray Y3.out (size5 _ rfl) rfl (oneT _ _ _ _ _ _) ?_))
    have TT4 : Tch (fun u => u = h ∨ u = h + 1) w2 (w3.setRow (h + 1) (ts A2 r.1.length c2 B m e0).toArray) := TT.out.trans (Tch.rowC (h + 1) _ (.inr rfl))
    have hne : ∀ u, (u = h ∨ u = h + 1) → ∃ t cs, Blk w2 u t cs ∧ 134 ≠ t := fun u hu => by
      rcases hu with rfl | rfl
      · exact ⟨_, _, X2.out, by decide⟩
      · exact ⟨_, _, Y2.out, by decide⟩
    have R4 : RTo w0 (w3.setRow (h + 1) (ts A2 r.1.length c2 B m e0).toArray) (.slice A2 r.1.length c2) r.1 := Own.tch R2.out TT4 (fun u e => by have h1 := HLE.out; have h2 := HH.out; omega) (fun u hu e => by obtain ⟨t, cs, hk, ht⟩ := hne u e; exact Own.not_blk R2.out hk ht hu)
    have T4 : Turn1 w (w3.setRow (h + 1) (ts A2 r.1.length c2 B m e0).toArray) (.slice A T.length c) (.slice A2 r.1.length c2) := by
      have Ta := (Turn1.gr (M0.out.gr.trans G1.out) (.slice A T.length c)).trans T2.out
      refine ⟨Nat.le_trans Ta.size TT4.size, fun u hu hn => ?_, Ta.own⟩
      exact (TT4.keep u (Nat.lt_of_lt_of_le hu Ta.size) (fun e => by have h2 := HH.out; omega)).trans (Ta.keep u hu hn)
    exact bodyPost_ret (v := .tuple #[.agg (ts A2 r.1.length c2 B m e0).toArray, .int .i64 (r.2 : Int)]) (results_5 Tryz.results101 _ _ (h + 1) (ts A2 r.1.length c2 B m e0) rfl rfl ((Y3.out.row _ : Xk _ (h + 1) (ts A2 r.1.length c2 B m e0)))) rfl ⟨A2, c2, rfl, R4, T4⟩
end Go.Proofs.YtcfbbgbjlgonpaaGreatDoor








