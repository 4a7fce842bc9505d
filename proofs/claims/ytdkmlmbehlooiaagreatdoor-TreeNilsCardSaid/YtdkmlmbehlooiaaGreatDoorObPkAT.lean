/- Own texts, one behind the other. No condition. -/
import Derived.Test.YtdkmlmbehlooiaaGreatDoorObPkAS
set_option linter.unusedVariables false
set_option linter.unusedSimpArgs false
namespace Go.Proofs.YtdkmlmbehlooiaaGreatDoor
section
open Go.RowKit
structure Fit (m : Mc) (a d l : Int) : Prop where
 g : Geo a d l
 s : (m.d.kept.length : Int) = sizeI a d l
section
variable {w0 w w' : World} {L : Pl} {m : Mc} {n : Nat} {a d l : Int}
set_option maxRecDepth 100000 in
set_option maxHeartbeats 1000000 in
theorem superRight_any (h : MSt w0 L m w) (f : Fit m a d l) : Calls Tryz.prog 158 #[.pointer (some ⟨L.dp, 0, none⟩), .agg #[.int .i64 a, .int .i64 d, .int .i64 l]] w fun e w' => e = .returned (.int .i64 0) ∧ Gr w w' := by
 have G0 : Hid (Gr w (w.alloc (.cells #[.int .i64 a, .int .i64 d, .int .i64 l] 23))) := Gr.alloc _ _
 have B0 : Hid (Blk (w.alloc (.cells #[.int .i64 a, .int .i64 d, .int .i64 l] 23)) w.heap.size 23 [.int .i64 a, .int .i64 d, .int .i64 l]) := Blk.new w _ _
 obtain ⟨W, hW⟩ : ∃ W, W = w.alloc (.cells #[.int .i64 a, .int .i64 d, .int .i64 l] 23) := ⟨_, rfl⟩
 rw [← hW] at G0 B0
 have HW := Lib.hid hW; clear hW
 have HR := Lib.hid (fun wr => gRa a d l wr)
 rw [f.g.r] at HR
 have HS := Lib.hid (fun wr => gSize_any a d l wr f.g)
 have HD := Lib.hid (fun wr (g : Gr w wr) => (h.mono g).size)
 rw [f.s] at HD
 generalize sizeI a d l = q at *
 have t1 : (q != q) = false := by simp
 clear h f
 go_enter Tryz.func158, Tryz.ntmps158
 go_upto_region 3 with fail
 rw [← HW.out]
 refine wp_region_quiet (C := fun w' => Below (W).heap.size (W) w') (by kernel_rfl) (by kernel_rfl) (Below.refl _ _).drew ?_
 simp only
 repeat (first
  | go_big_quiet_skip
  | (go_big_quiet_want
     apply Exists.intro
     refine ⟨fun wq hq => ?_, ?_⟩
     · (have k0 := (B0.out.mono hq).cell 0; have k1 := (B0.out.mono hq).cell 1; have k2 := (B0.out.mono hq).cell 2
        go_simp
        first
         | done
         | exact rfl
         | (with_reducible exact ⟨rfl, rfl⟩)
         | (first | (go_at_call 56; exact (HR.out wq).mono fun e w2 ⟨he, hb⟩ => ⟨he, bBo hq hb⟩) | (go_at_call 58; exact (HS.out wq).mono fun e w2 ⟨he, hb⟩ => ⟨he, bBo hq hb⟩) | (go_at_call 57; exact (HD.out wq (G0.out.trans hq)).mono fun e w2 ⟨he, hb⟩ => ⟨he, hb ▸ hq⟩)))
     go_simp
     go_big_quiet_on))
 refine wpQuiet_nil ?_
 intro wq hq
 go_wp2_with fail
 go_ret
 exact ⟨rfl, G0.out.trans hq⟩
theorem superBoth_any (h : MSt w0 L m w) (f : Fit m a d l) : Calls Tryz.prog 127 #[.pointer (some ⟨L.dp, 0, none⟩), .pointer (some ⟨L.p, 0, none⟩), .agg #[.int .i64 a, .int .i64 d, .int .i64 l]] w fun e w' => e = .returned (.int .i64 0) ∧ Gr w w' := by
 have HR := Lib.hid (superRight_any (h.mono (Gr.alloc w (.cells #[.int .i64 a, .int .i64 d, .int .i64 l] 23))) f)
 have G0 : Hid (Gr w (w.alloc (.cells #[.int .i64 a, .int .i64 d, .int .i64 l] 23))) := Gr.alloc _ _
 clear h f
 go_enter Tryz.func127, Tryz.ntmps127
 go_wp2_with fail
 refine HR.out.mono ?_
 rintro e w1 ⟨rfl, g1⟩
 have G1 : Hid (Gr w w1) := G0.out.trans g1
 clear g1
 go_wp2_with fail
 go_ret
 exact ⟨rfl, G1.out⟩
theorem superPlaces_any (w : World) : Calls Tryz.prog 129 #[] w fun e w' => e = .returned (.agg #[.int .i64 2, .int .i64 3]) ∧ Gr w w' := by
 have H0 := Lib.hid (fun wr => gSuper_any 0 wr (by omega))
 have H1 := Lib.hid (fun wr => gSuper_any 1 wr (by omega))
 go_enter Tryz.func129, Tryz.ntmps129
 go_wp2_with fail
 refine (H0.out _).mono ?_
 rintro e w1 ⟨rfl, h1⟩
 subst h1
 go_wp2_with fail
 refine (H1.out _).mono ?_
 rintro e w1 ⟨rfl, h1⟩
 subst h1
 go_wp2_with fail
 exact bodyPost_ret (results_cell_row Tryz.results129 _ _ w.heap.size 166 #[.int .i64 2, .int .i64 3] (0, 0) _ rfl (Blk.new w _ _) Tryz.underlying166 rfl (by kernel_rfl)) rfl ⟨rfl, Gr.alloc _ _⟩
def markG (a d l : Int) : List UInt8 := [UInt8.ofNat a.toNat, UInt8.ofNat d.toNat, UInt8.ofNat l.toNat]
set_option maxHeartbeats 1000000 in
theorem superMark_any (w : World) (g : Geo a d l) : Calls Tryz.prog 195 #[.agg #[.int .i64 a, .int .i64 d, .int .i64 l]] w fun e w' => ∃ A c, e = .returned (.slice A 3 c) ∧ Own w w' 5 1 (.slice A 3 c) 3 ((markG a d l).map u8c) := by
 have G0 : Hid (Gr w (w.alloc (.cells #[.int .i64 a, .int .i64 d, .int .i64 l] 23))) := Gr.alloc _ _
 have B0 : Hid (Blk (w.alloc (.cells #[.int .i64 a, .int .i64 d, .int .i64 l] 23)) w.heap.size 23 [.int .i64 a, .int .i64 d, .int .i64 l]) := Blk.new w _ _
 have HR := Lib.hid (fun wr => gRa a d l wr)
 rw [g.r] at HR
 obtain ⟨x, y, e1, e2, x1, x2, y1, y2⟩ := rightB_ok g.r
 obtain ⟨l1, l2⟩ := g.l
 have w1 : IntKind.u8.wrap a = a := wrap_u8 (by omega) (by omega)
 have w2 : IntKind.u8.wrap d = d := wrap_u8 (by omega) (by omega)
 have w3 : IntKind.u8.wrap l = l := wrap_u8 (by omega) (by omega)
 have HM : Hid ([Value.int .u8 a, .int .u8 d, .int .u8 l] = (markG a d l).map u8c) := by
  show _ = _
  unfold markG
  simp only [List.map_cons, List.map_nil]
  rw [u8_of a (by omega) (by omega), u8_of d (by omega) (by omega), u8_of l (by omega) (by omega)]
 clear g e1 e2
 go_enter Tryz.func195, Tryz.ntmps195
 go_wp2_with fail
 refine (HR.out _).mono ?_
 rintro e w1 ⟨rfl, g1⟩
 have k0 := (B0.out.mono g1).cell 0
 have k1 := (B0.out.mono g1).cell 1
 have k2 := (B0.out.mono g1).cell 2
 have G1 : Hid (Gr w w1) := G0.out.trans g1
 clear g1
 go_wp2_with fail
 go_ret
 have B2 : Blk (w1.alloc (.cells #[.int .u8 a, .int .u8 d, .int .u8 l] 5)) w1.heap.size 5 [.int .u8 a, .int .u8 d, .int .u8 l] := Blk.new w1 _ _
 refine ⟨_, _, rfl, ?_⟩
 rw [← HM.out]
 exact B2.own (size := 1) (n := 3) G1.out.size (G1.out.trans (Gr.alloc _ _)) rfl (by decide)
end
end
section
open Go.RowKit
structure Spr where
 life : Nat
 base : Nat
 gen : Nat
def spr0 : Spr := ⟨0, 0, 0⟩
def sprC (x : Spr) : Array Value := #[.int .u64 (x.life : Int), .int .i64 (x.base : Int), .int .u64 (x.gen : Int)]
theorem sprOne (x : Spr) : (sprC x).all (·.oneCell') = true := by
 rw [Array.all_eq_true']
 intro v hv
 have : v ∈ (sprC x).toList := Array.mem_toList_iff.2 hv
 simp only [sprC, List.mem_cons, List.not_mem_nil, or_false] at this
 rcases this with h | h | h <;> subst h <;> rfl
theorem sprSize : (Tryz.prog.info? 108).map (·.size) = some 3 := by kernel_rfl
theorem results_spr3 {fn : Func} {p u v : Tmp} (h : fn.results = #[.cell p 108, .tmp u, .tmp v]) (tmps : Array Value) (w : World) (g : Nat) (t : TypeId) (cs : Array Value)
 (hp : tmps.getD p undef = .pointer (some ⟨g, 0, none⟩)) (hg : w.heap[g]? = some (.cells cs t (0, 0))) (hc : cs.size = 3) :
 (results fn tmps).run Tryz.prog w = .ok (.tuple #[.agg cs, tmps.getD u undef, tmps.getD v undef]) w := by
 have h1 := run_loadVar_row w g t 108 cs (0, 0) _ hg Tryz.underlying108 rfl (by rw [sprSize, hc])
 have hp' : tmps[p]?.getD undef = .pointer (some ⟨g, 0, none⟩) := by simpa using hp
 simp only [results, h]
 simp [Sem.run_bind, Result.andThen, hp', asAddr, h1]
theorem results_spr2 {fn : Func} {p u : Tmp} (h : fn.results = #[.cell p 108, .tmp u]) (tmps : Array Value) (w : World) (g : Nat) (t : TypeId) (cs : Array Value)
 (hp : tmps.getD p undef = .pointer (some ⟨g, 0, none⟩)) (hg : w.heap[g]? = some (.cells cs t (0, 0))) (hc : cs.size = 3) :
 (results fn tmps).run Tryz.prog w = .ok (.tuple #[.agg cs, tmps.getD u undef]) w := by
 have h1 := run_loadVar_row w g t 108 cs (0, 0) _ hg Tryz.underlying108 rfl (by rw [sprSize, hc])
 have hp' : tmps[p]?.getD undef = .pointer (some ⟨g, 0, none⟩) := by simpa using hp
 simp only [results, h]
 simp [Sem.run_bind, Result.andThen, hp', asAddr, h1]
def superB (S : List (List UInt8)) (a d l : Int) (place : Nat) (b : List UInt8) : Option Spr :=
 if (decR S place b).2 = 0 ∧ (decR S place b).1.kind = 2 ∧ 2 + (decR S place b).1.life % 2 = place ∧ (decR S place b).1.body = markG a d l then some ⟨(decR S place b).1.life, (decR S place b).1.seq, (decR S place b).1.gen⟩ else none
theorem decR_lt (S : List (List UInt8)) (place : Nat) (b : List UInt8) (hb : b.length = 512) : (decR S place b).1.life < 18446744073709551616 ∧ (decR S place b).1.gen < 18446744073709551616 ∧ (decR S place b).1.body.length ≤ 479 ∧ (decR S place b).1.seq ≤ 1073741824 ∧ (decR S place b).1.kind ≤ 5 := by
 unfold decR decS
 split
 · next k h => exact ⟨show (0 : Nat) < _ by decide, show (0 : Nat) < _ by decide, show (0 : Nat) ≤ _ by decide, show (0 : Nat) ≤ _ by decide, show (0 : Nat) ≤ _ by decide⟩
 · next x h =>
   split at h
   · cases h
   · split at h
     · cases h
     · next y hy =>
       split at h
       · next hc =>
         injection h with h
         subst h
         obtain ⟨h1, h2, h3⟩ := readS_len hb hy
         have hr := hc.1
         unfold Sec.right at hr
         simp only [Bool.and_eq_true, decide_eq_true_eq] at hr
         exact ⟨h1, h2, h3, hr.1.2, hr.1.1.1.2⟩
       · cases h
section
variable {w0 w w' : World} {L : Pl} {m : Mc} {n : Nat} {a d l : Int}
set_option maxRecDepth 100000 in
set_option maxHeartbeats 4000000 in
theorem superAt_any (h : MSt w0 L m w) (f : Fit m a d l) (ho : m.Ok n) (hn : n ≤ 900) (hd : m.d.down = false) (hp : m.d.pend = []) (p : Nat) (hp2 : p < 2) (b : List UInt8) (hb : m.d.kept[2 + p]? = some b) :
 Calls Tryz.prog 130 #[.pointer (some ⟨L.dp, 0, none⟩), .pointer (some ⟨L.p, 0, none⟩), .agg #[.int .i64 a, .int .i64 d, .int .i64 l], .int .i64 ((2 + p : Nat) : Int)] w fun e w' => e = .returned (.tuple #[.agg (sprC ((superB m.S a d l (2 + p) b).getD spr0)), .bool (superB m.S a d l (2 + p) b).isSome, .int .i64 0]) ∧ Gr w w' := by
 have hbl : b.length = 512 := h.len (List.mem_of_getElem? hb)
 obtain ⟨x1, x2, x3, x4, x5⟩ := decR_lt m.S (2 + p) b hbl
 obtain ⟨R, hR⟩ : ∃ R, R = superB m.S a d l (2 + p) b := ⟨_, rfl⟩
 rw [← hR]
 unfold superB at hR
 obtain ⟨D, hD⟩ : ∃ D, D = decR m.S (2 + p) b := ⟨_, rfl⟩
 rw [← hD] at hR x1 x2 x3 x4 x5
 have g0 : Gr w ((w.alloc (.cells #[.int .i64 a, .int .i64 d, .int .i64 l] 23)).alloc (.cells (sprC spr0) 108)) := (Gr.alloc _ _).trans (Gr.alloc _ _)
 have gb : Blk ((w.alloc (.cells #[.int .i64 a, .int .i64 d, .int .i64 l] 23)).alloc (.cells (sprC spr0) 108)) w.heap.size 23 [.int .i64 a, .int .i64 d, .int .i64 l] := (Blk.new w _ _).alloc _
 have rb : Blk ((w.alloc (.cells #[.int .i64 a, .int .i64 d, .int .i64 l] 23)).alloc (.cells (sprC spr0) 108)) (w.heap.size + 1) 108 (sprC spr0).toList := heap_alloc2_new w _ _
 have HBO := Lib.hid (fun wr (g : Gr w wr) => superBoth_any (h.mono g) f)
 have HWH := Lib.hid (fun wr => gWhere_super a d l wr f.g p hp2)
 have HRE := Lib.hid (fun wr (g : Gr w wr) => (h.mono g).read ho (by omega) hd hp (2 + p) b hb)
 have HDE := Lib.hid (fun wr (g : Gr w wr) A c (s : Bs wr A 512 c b) => (h.mono g).decode ho hn (2 + p) A c b s)
 rw [← hD] at HDE
 have HSP := Lib.hid (fun wr => gSuper_any D.1.life wr x1)
 have HMK := Lib.hid (fun wr => superMark_any (a := a) (d := d) (l := l) wr f.g)
 obtain ⟨v, hv⟩ : ∃ v, v = 2 + p := ⟨_, rfl⟩
 rw [← hv] at hR HWH HRE HDE ⊢
 have HV := Lib.hid hv; clear hv
 obtain ⟨u, hu⟩ : ∃ u, u = 2 + D.1.life % 2 := ⟨_, rfl⟩
 rw [← hu] at HSP hR
 have HU := Lib.hid hu; clear hu
 have HR := Lib.hid hR
 obtain ⟨X, k⟩ := D
 simp only at HR HSP HDE x1 x2 x3 x4 x5
 clear h f ho hd hp hb hD hR
 go_enter Tryz.func130, Tryz.ntmps130
 go_upto_region 1 with fail
 change Code.wp _ _ _ _ ((w.alloc (.cells #[.int .i64 a, .int .i64 d, .int .i64 l] 23)).alloc (.cells (sprC spr0) 108))
 obtain ⟨W, hW⟩ : ∃ W, W = (w.alloc (.cells #[.int .i64 a, .int .i64 d, .int .i64 l] 23)).alloc (.cells (sprC spr0) 108) := ⟨_, rfl⟩
 rw [← hW] at g0 gb rb ⊢
 have G0 := Lib.hid g0; have GB := Lib.hid gb; have RB := Lib.hid rb
 have k0 := gb.cell 0
 have k1 := gb.cell 1
 have k2 := gb.cell 2
 clear hW g0 gb rb
 go_wp2_with fail
 refine (HBO.out _ G0.out).mono ?_
 rintro e w1 ⟨rfl, g1⟩
 have G1 := Lib.hid g1
 have k0 := (GB.out.mono g1).cell 0
 have k1 := (GB.out.mono g1).cell 1
 have k2 := (GB.out.mono g1).cell 2
 clear g1
 go_wp2_with fail
 refine (HWH.out _).mono ?_
 rintro e w2 ⟨rfl, g2⟩
 have G2 := Lib.hid (G1.out.trans g2)
 clear g2
 go_wp2_with fail
 refine (HRE.out _ (G0.out.trans G2.out)).mono ?_
 rintro e w2b ⟨A2, c2, rfl, q2, g2⟩
 have G2b := Lib.hid (G2.out.trans g2)
 have Q2 := Lib.hid q2.b
 clear g2 q2
 go_wp2_with fail
 refine (HDE.out _ (G0.out.trans G2b.out) A2 c2 Q2.out).mono ?_
 rintro e w2c ⟨A3, c3, rfl, o3⟩
 have G2c := Lib.hid (G2b.out.trans o3.below)
 have O3 := Lib.hid o3
 clear o3
 unfold secV
 go_upto_region 11 with fail
 obtain ⟨w3, hw3⟩ : ∃ w3, w3 = w2c.alloc (.cells #[.int .i64 (X.kind : Int), .int .u64 (X.life : Int), .int .i64 (X.seq : Int), .int .u64 (X.gen : Int), .slice A3 X.body.length c3] 129) := ⟨_, rfl⟩
 have K3 : Hid (Blk w3 w2c.heap.size 129 [.int .i64 (X.kind : Int), .int .u64 (X.life : Int), .int .i64 (X.seq : Int), .int .u64 (X.gen : Int), .slice A3 X.body.length c3]) := by rw [hw3]; exact Blk.new w2c 129 _
 have G33 : Hid (Gr w2c w3) := by rw [hw3]; exact Gr.alloc _ _
 have G3 : Hid (Gr W w3) := G2c.out.trans G33.out
 have G03 : Hid (Gr w w3) := G0.out.trans G3.out
 have O4 := Lib.hid (O3.out.mono G33.out)
 rw [← hw3]
 clear hw3 k0 k1 k2
 by_cases h1 : k = 0
 case neg =>
  have t1 : ((k : Int) == 0) = false := by rw [beq_eq_false_iff_ne]; omega
  have HRW : Hid (R = none) := by show _ = _; rw [HR.out, if_neg (fun q => h1 q.1)]
  have GX : Hid (Gr w3 w3.drew) := Gr.drew _
  clear h1
  refine wrG (by kernel_rfl) [0, 1, 3, 7, 15, 31, 63, 127, 255, 511, 1023, 255, 4095, 8191, 16383, 32767, 65535, 32767, 163839, 524287, 1048575, 2097151] [.p 0, .p 1, .p 2, .p 3, .q 4, .p 5, .p 6, .p 7, .p 8, .p 11, .q 9, .c 10, .p 12, .p 13, .p 14, .p 15, .q 16, .q 17, .c 18, .c 19, .p 20, .p 21] (by kernel_rfl) (trivial) ?_
  iterate 3
   refine wPe rfl rfl ?_
   apply Exists.intro
   refine ⟨fun wq => ?_, ?_⟩
   · unfold pLa
     go_simp
     first | exact rfl | exact ⟨rfl, rfl⟩
   go_simp
  first | refine wGp rfl rfl ?_ | refine wGq rfl rfl ?_ | refine wGc rfl rfl ?_
  go_simp
  first | refine wGp rfl rfl ?_ | refine wGq rfl rfl ?_ | refine wGc rfl rfl ?_
  go_simp
  first | refine wGp rfl rfl ?_ | refine wGq rfl rfl ?_ | refine wGc rfl rfl ?_
  go_simp
  iterate 2
   refine wPe rfl rfl ?_
   apply Exists.intro
   refine ⟨fun wq => ?_, ?_⟩
   · unfold pLa
     go_simp
     first | exact rfl | exact ⟨rfl, rfl⟩
   go_simp
  first | refine wGp rfl rfl ?_ | refine wGq rfl rfl ?_ | refine wGc rfl rfl ?_
  go_simp
  first | refine wGp rfl rfl ?_ | refine wGq rfl rfl ?_ | refine wGc rfl rfl ?_
  go_simp
  first | refine wGp rfl rfl ?_ | refine wGq rfl rfl ?_ | refine wGc rfl rfl ?_
  go_simp
  first | refine wGp rfl rfl ?_ | refine wGq rfl rfl ?_ | refine wGc rfl rfl ?_
  go_simp
  first | refine wGp rfl rfl ?_ | refine wGq rfl rfl ?_ | refine wGc rfl rfl ?_
  go_simp
  iterate 2
   refine wPe rfl rfl ?_
   apply Exists.intro
   refine ⟨fun wq => ?_, ?_⟩
   · unfold pLa
     go_simp
     first | exact rfl | exact ⟨rfl, rfl⟩
   go_simp
  first | refine wGp rfl rfl ?_ | refine wGq rfl rfl ?_ | refine wGc rfl rfl ?_
  go_simp
  first | refine wGp rfl rfl ?_ | refine wGq rfl rfl ?_ | refine wGc rfl rfl ?_
  go_simp
  first | refine wGp rfl rfl ?_ | refine wGq rfl rfl ?_ | refine wGc rfl rfl ?_
  go_simp
  first | refine wGp rfl rfl ?_ | refine wGq rfl rfl ?_ | refine wGc rfl rfl ?_
  go_simp
  first | refine wGp rfl rfl ?_ | refine wGq rfl rfl ?_ | refine wGc rfl rfl ?_
  go_simp
  iterate 2
   refine wPe rfl rfl ?_
   apply Exists.intro
   refine ⟨fun wq => ?_, ?_⟩
   · unfold pLa
     go_simp
     first | exact rfl | exact ⟨rfl, rfl⟩
   go_simp
  refine wNi ?_
  intro w12 g12
  have K12 := Lib.hid (RB.out.mono (G3.out.trans ((GX).out.trans g12)))
  have G12 := Lib.hid (G03.out.trans ((GX).out.trans g12))
  have hr : R = none := HRW.out
  subst hr
  clear g12
  go_wp2_with (refine wpList_store_row rfl 108 (.tmp 8) (.tmp 76) rfl (w.heap.size + 1) (sprC spr0) rfl rfl 108 (sprC spr0) K12.out sprSize rfl (sprOne _) ?_)
  have HN := setRow_heap w12 (w.heap.size + 1) _ (sprC spr0) _ _ K12.out
  exact bodyPost_ret (results_spr3 Tryz.results130 _ _ (w.heap.size + 1) _ _ rfl HN rfl) rfl ⟨rfl, bRb G12.out (by omega) _⟩
 have t1 : ((k : Int) == 0) = true := by rw [beq_iff_eq]; omega
 by_cases h2 : X.kind = 2
 case neg =>
  have t2 : ((X.kind : Int) == 2) = false := by rw [beq_eq_false_iff_ne]; omega
  have HRW : Hid (R = none) := by show _ = _; rw [HR.out, if_neg (fun q => h2 q.2.1)]
  have GX : Hid (Gr w3 w3.drew) := Gr.drew _
  clear h1 h2
  refine wrG (by kernel_rfl) [0, 1, 3, 7, 15, 31, 63, 127, 255, 511, 1023, 255, 4095, 8191, 16383, 32767, 65535, 32767, 163839, 524287, 1048575, 2097151] [.p 0, .p 1, .p 2, .p 3, .q 4, .p 5, .p 6, .p 7, .p 8, .p 11, .q 9, .c 10, .p 12, .p 13, .p 14, .p 15, .q 16, .q 17, .c 18, .c 19, .p 20, .p 21] (by kernel_rfl) (trivial) ?_
  iterate 4
   refine wPe rfl rfl ?_
   apply Exists.intro
   refine ⟨fun wq => ?_, ?_⟩
   · unfold pLa
     go_simp
     first | exact rfl | exact ⟨rfl, rfl⟩
   go_simp
  refine wQe rfl rfl ?_
  apply Exists.intro
  refine ⟨fun wq hq => ?_, ?_⟩
  · have z0 := (K3.out.mono ((Gr.drew _).trans hq)).cell 0
    unfold pLa
    go_simp
    first | exact rfl | exact ⟨rfl, rfl⟩
  go_simp
  iterate 3
   refine wPe rfl rfl ?_
   apply Exists.intro
   refine ⟨fun wq => ?_, ?_⟩
   · unfold pLa
     go_simp
     first | exact rfl | exact ⟨rfl, rfl⟩
   go_simp
  first | refine wGp rfl rfl ?_ | refine wGq rfl rfl ?_ | refine wGc rfl rfl ?_
  go_simp
  first | refine wGp rfl rfl ?_ | refine wGq rfl rfl ?_ | refine wGc rfl rfl ?_
  go_simp
  first | refine wGp rfl rfl ?_ | refine wGq rfl rfl ?_ | refine wGc rfl rfl ?_
  go_simp
  first | refine wGp rfl rfl ?_ | refine wGq rfl rfl ?_ | refine wGc rfl rfl ?_
  go_simp
  first | refine wGp rfl rfl ?_ | refine wGq rfl rfl ?_ | refine wGc rfl rfl ?_
  go_simp
  iterate 2
   refine wPe rfl rfl ?_
   apply Exists.intro
   refine ⟨fun wq => ?_, ?_⟩
   · unfold pLa
     go_simp
     first | exact rfl | exact ⟨rfl, rfl⟩
   go_simp
  first | refine wGp rfl rfl ?_ | refine wGq rfl rfl ?_ | refine wGc rfl rfl ?_
  go_simp
  first | refine wGp rfl rfl ?_ | refine wGq rfl rfl ?_ | refine wGc rfl rfl ?_
  go_simp
  first | refine wGp rfl rfl ?_ | refine wGq rfl rfl ?_ | refine wGc rfl rfl ?_
  go_simp
  first | refine wGp rfl rfl ?_ | refine wGq rfl rfl ?_ | refine wGc rfl rfl ?_
  go_simp
  first | refine wGp rfl rfl ?_ | refine wGq rfl rfl ?_ | refine wGc rfl rfl ?_
  go_simp
  iterate 2
   refine wPe rfl rfl ?_
   apply Exists.intro
   refine ⟨fun wq => ?_, ?_⟩
   · unfold pLa
     go_simp
     first | exact rfl | exact ⟨rfl, rfl⟩
   go_simp
  refine wNi ?_
  intro w12 g12
  have K12 := Lib.hid (RB.out.mono (G3.out.trans ((GX).out.trans g12)))
  have G12 := Lib.hid (G03.out.trans ((GX).out.trans g12))
  have hr : R = none := HRW.out
  subst hr
  clear g12
  go_wp2_with (refine wpList_store_row rfl 108 (.tmp 8) (.tmp 76) rfl (w.heap.size + 1) (sprC spr0) rfl rfl 108 (sprC spr0) K12.out sprSize rfl (sprOne _) ?_)
  have HN := setRow_heap w12 (w.heap.size + 1) _ (sprC spr0) _ _ K12.out
  exact bodyPost_ret (results_spr3 Tryz.results130 _ _ (w.heap.size + 1) _ _ rfl HN rfl) rfl ⟨rfl, bRb G12.out (by omega) _⟩
 have t2 : ((X.kind : Int) == 2) = true := by rw [beq_iff_eq]; omega
 by_cases h3 : u = v
 case neg =>
  have t3 : ((u : Int) == (v : Int)) = false := by rw [beq_eq_false_iff_ne]; omega
  have HRW : Hid (R = none) := by show _ = _; rw [HR.out, if_neg (fun q => h3 q.2.2.1)]
  clear h1 h2 h3
  refine wrG (by kernel_rfl) [0, 1, 3, 7, 15, 31, 63, 127, 255, 511, 1023, 255, 4095, 8191, 16383, 32767, 65535, 32767, 163839, 524287, 1048575, 2097151] [.p 0, .p 1, .p 2, .p 3, .q 4, .p 5, .p 6, .p 7, .p 8, .p 11, .q 9, .c 10, .p 12, .p 13, .p 14, .p 15, .q 16, .q 17, .c 18, .c 19, .p 20, .p 21] (by kernel_rfl) (trivial) ?_
  iterate 4
   refine wPe rfl rfl ?_
   apply Exists.intro
   refine ⟨fun wq => ?_, ?_⟩
   · unfold pLa
     go_simp
     first | exact rfl | exact ⟨rfl, rfl⟩
   go_simp
  refine wQe rfl rfl ?_
  apply Exists.intro
  refine ⟨fun wq hq => ?_, ?_⟩
  · have z0 := (K3.out.mono ((Gr.drew _).trans hq)).cell 0
    unfold pLa
    go_simp
    first | exact rfl | exact ⟨rfl, rfl⟩
  go_simp
  iterate 5
   refine wPe rfl rfl ?_
   apply Exists.intro
   refine ⟨fun wq => ?_, ?_⟩
   · unfold pLa
     go_simp
     first | exact rfl | exact ⟨rfl, rfl⟩
   go_simp
  refine wQe rfl rfl ?_
  apply Exists.intro
  refine ⟨fun wq hq => ?_, ?_⟩
  · have z1 := (K3.out.mono ((Gr.drew _).trans hq)).cell 1
    unfold pLa
    go_simp
    first | exact rfl | exact ⟨rfl, rfl⟩
  go_simp
  refine wpG_c rfl rfl ?_
  intro w4 g4 K hK
  go_simp
  go_at_call 193
  refine (HSP.out w4).mono ?_
  rintro e wn ⟨rfl, h5⟩
  subst h5; refine hK _ _ (Gr.refl _) ?_; have G5 := Lib.hid ((Gr.drew w3).trans g4); clear g4 hK
  go_simp
  iterate 3
   refine wPe rfl rfl ?_
   apply Exists.intro
   refine ⟨fun wq => ?_, ?_⟩
   · unfold pLa
     go_simp
     first | exact rfl | exact ⟨rfl, rfl⟩
   go_simp
  first | refine wGp rfl rfl ?_ | refine wGq rfl rfl ?_ | refine wGc rfl rfl ?_
  go_simp
  first | refine wGp rfl rfl ?_ | refine wGq rfl rfl ?_ | refine wGc rfl rfl ?_
  go_simp
  first | refine wGp rfl rfl ?_ | refine wGq rfl rfl ?_ | refine wGc rfl rfl ?_
  go_simp
  first | refine wGp rfl rfl ?_ | refine wGq rfl rfl ?_ | refine wGc rfl rfl ?_
  go_simp
  first | refine wGp rfl rfl ?_ | refine wGq rfl rfl ?_ | refine wGc rfl rfl ?_
  go_simp
  iterate 2
   refine wPe rfl rfl ?_
   apply Exists.intro
   refine ⟨fun wq => ?_, ?_⟩
   · unfold pLa
     go_simp
     first | exact rfl | exact ⟨rfl, rfl⟩
   go_simp
  refine wNi ?_
  intro w12 g12
  have K12 := Lib.hid (RB.out.mono (G3.out.trans ((G5).out.trans g12)))
  have G12 := Lib.hid (G03.out.trans ((G5).out.trans g12))
  have hr : R = none := HRW.out
  subst hr
  clear g12
  go_wp2_with (refine wpList_store_row rfl 108 (.tmp 8) (.tmp 76) rfl (w.heap.size + 1) (sprC spr0) rfl rfl 108 (sprC spr0) K12.out sprSize rfl (sprOne _) ?_)
  have HN := setRow_heap w12 (w.heap.size + 1) _ (sprC spr0) _ _ K12.out
  exact bodyPost_ret (results_spr3 Tryz.results130 _ _ (w.heap.size + 1) _ _ rfl HN rfl) rfl ⟨rfl, bRb G12.out (by omega) _⟩
 subst h3
 have t3 : ((u : Int) == (u : Int)) = true := by simp
 obtain ⟨y, hy⟩ : ∃ y, y = (X.body == markG a d l) := ⟨_, rfl⟩
 have HSA : Hid (∀ (A7 : Option Addr) (c7 : Nat) (wr : World), Gr w3 wr → Bs wr A7 3 c7 (markG a d l) → Calls Tryz.prog 105 #[.slice A3 X.body.length c3, .slice A7 3 c7] wr fun e w' => e = .returned (.bool y) ∧ wr = w') := fun A7 c7 wr g s1 => by
  obtain ⟨_, _, hv, s⟩ := (O4.out.mono g).slice
  injection hv with e1 _ e2
  subst e1 e2
  rw [hy]
  exact same_any _ _ _ _ _ _ _ _ wr s s1
 have HY := Lib.hid hy
 clear hy
 cases y
 · have HRW : Hid (R = none) := by
    show _ = _
    rw [HR.out, if_neg (fun q => by have := HY.out; rw [q.2.2.2] at this; simp at this)]
   clear h1 h2
   refine wrG (by kernel_rfl) [0, 1, 3, 7, 15, 31, 63, 127, 255, 511, 1023, 255, 4095, 8191, 16383, 32767, 65535, 32767, 163839, 524287, 1048575, 2097151] [.p 0, .p 1, .p 2, .p 3, .q 4, .p 5, .p 6, .p 7, .p 8, .p 11, .q 9, .c 10, .p 12, .p 13, .p 14, .p 15, .q 16, .q 17, .c 18, .c 19, .p 20, .p 21] (by kernel_rfl) (trivial) ?_
   iterate 4
    refine wPe rfl rfl ?_
    apply Exists.intro
    refine ⟨fun wq => ?_, ?_⟩
    · unfold pLa
      go_simp
      first | exact rfl | exact ⟨rfl, rfl⟩
    go_simp
   refine wQe rfl rfl ?_
   apply Exists.intro
   refine ⟨fun wq hq => ?_, ?_⟩
   · have z0 := (K3.out.mono ((Gr.drew _).trans hq)).cell 0
     unfold pLa
     go_simp
     first | exact rfl | exact ⟨rfl, rfl⟩
   go_simp
   iterate 5
    refine wPe rfl rfl ?_
    apply Exists.intro
    refine ⟨fun wq => ?_, ?_⟩
    · unfold pLa
      go_simp
      first | exact rfl | exact ⟨rfl, rfl⟩
    go_simp
   refine wQe rfl rfl ?_
   apply Exists.intro
   refine ⟨fun wq hq => ?_, ?_⟩
   · have z1 := (K3.out.mono ((Gr.drew _).trans hq)).cell 1
     unfold pLa
     go_simp
     first | exact rfl | exact ⟨rfl, rfl⟩
   go_simp
   refine wpG_c rfl rfl ?_
   intro w4 g4 K hK
   go_simp
   go_at_call 193
   refine (HSP.out w4).mono ?_
   rintro e wn ⟨rfl, h5⟩
   subst h5; refine hK _ _ (Gr.refl _) ?_; have G5 := Lib.hid ((Gr.drew w3).trans g4); clear g4 hK
   go_simp
   iterate 4
    refine wPe rfl rfl ?_
    apply Exists.intro
    refine ⟨fun wq => ?_, ?_⟩
    · unfold pLa
      go_simp
      first | exact rfl | exact ⟨rfl, rfl⟩
    go_simp
   refine wQe rfl rfl ?_
   apply Exists.intro
   refine ⟨fun wq hq => ?_, ?_⟩
   · have z4 := (K3.out.mono (G5.out.trans hq)).cell 4
     unfold pLa
     go_simp
     first | exact rfl | exact ⟨rfl, rfl⟩
   go_simp
   refine wQe rfl rfl ?_
   apply Exists.intro
   refine ⟨fun wq hq => ?_, ?_⟩
   · have k0 := (GB.out.mono (G3.out.trans (G5.out.trans hq))).cell 0; have k1 := (GB.out.mono (G3.out.trans (G5.out.trans hq))).cell 1; have k2 := (GB.out.mono (G3.out.trans (G5.out.trans hq))).cell 2
     unfold pLa
     go_simp
     first | exact rfl | exact ⟨rfl, rfl⟩
   go_simp
   refine wpG_c rfl rfl ?_
   intro w6 g6 K hK
   go_simp
   go_at_call 195
   refine (HMK.out w6).mono ?_
   rintro e wn ⟨A7, c7, rfl, o7⟩
   refine hK _ _ o7.below ?_; obtain ⟨_, _, hv7, s7⟩ := o7.slice; injection hv7 with e1 _ e2; subst e1 e2; have S7 : Hid (Bs wn A7 3 c7 (markG a d l)) := s7; have G7 := Lib.hid ((G5.out.trans g6).trans o7.below); clear g6 o7 s7 hK
   go_simp
   refine wpG_c rfl rfl ?_
   intro w8 g8 K hK
   go_simp
   go_at_call 105
   refine (HSA.out A7 c7 w8 (G7.out.trans g8) (S7.out.mono g8)).mono ?_
   rintro e wn ⟨rfl, h9⟩
   subst h9; refine hK _ _ (Gr.refl _) ?_; have G9 := Lib.hid (G7.out.trans g8); clear g8 hK
   go_simp
   iterate 2
    refine wPe rfl rfl ?_
    apply Exists.intro
    refine ⟨fun wq => ?_, ?_⟩
    · unfold pLa
      go_simp
      first | exact rfl | exact ⟨rfl, rfl⟩
    go_simp
   refine wNi ?_
   intro w12 g12
   have K12 := Lib.hid (RB.out.mono (G3.out.trans ((G9).out.trans g12)))
   have G12 := Lib.hid (G03.out.trans ((G9).out.trans g12))
   have hr : R = none := HRW.out
   subst hr
   clear g12
   go_wp2_with (refine wpList_store_row rfl 108 (.tmp 8) (.tmp 76) rfl (w.heap.size + 1) (sprC spr0) rfl rfl 108 (sprC spr0) K12.out sprSize rfl (sprOne _) ?_)
   have HN := setRow_heap w12 (w.heap.size + 1) _ (sprC spr0) _ _ K12.out
   exact bodyPost_ret (results_spr3 Tryz.results130 _ _ (w.heap.size + 1) _ _ rfl HN rfl) rfl ⟨rfl, bRb G12.out (by omega) _⟩
 · have hr : R = some ⟨X.life, X.seq, X.gen⟩ := by
    rw [HR.out, if_pos ⟨h1, h2, rfl, beq_iff_eq.1 HY.out.symm⟩]
   subst hr
   clear h1 h2
   refine wrG (by kernel_rfl) [0, 1, 3, 7, 15, 31, 63, 127, 255, 511, 1023, 255, 4095, 8191, 16383, 32767, 65535, 32767, 163839, 524287, 1048575, 2097151] [.p 0, .p 1, .p 2, .p 3, .q 4, .p 5, .p 6, .p 7, .p 8, .p 11, .q 9, .c 10, .p 12, .p 13, .p 14, .p 15, .q 16, .q 17, .c 18, .c 19, .p 20, .p 21] (by kernel_rfl) (trivial) ?_
   iterate 4
    refine wPe rfl rfl ?_
    apply Exists.intro
    refine ⟨fun wq => ?_, ?_⟩
    · unfold pLa
      go_simp
      first | exact rfl | exact ⟨rfl, rfl⟩
    go_simp
   refine wQe rfl rfl ?_
   apply Exists.intro
   refine ⟨fun wq hq => ?_, ?_⟩
   · have z0 := (K3.out.mono ((Gr.drew _).trans hq)).cell 0
     unfold pLa
     go_simp
     first | exact rfl | exact ⟨rfl, rfl⟩
   go_simp
   iterate 5
    refine wPe rfl rfl ?_
    apply Exists.intro
    refine ⟨fun wq => ?_, ?_⟩
    · unfold pLa
      go_simp
      first | exact rfl | exact ⟨rfl, rfl⟩
    go_simp
   refine wQe rfl rfl ?_
   apply Exists.intro
   refine ⟨fun wq hq => ?_, ?_⟩
   · have z1 := (K3.out.mono ((Gr.drew _).trans hq)).cell 1
     unfold pLa
     go_simp
     first | exact rfl | exact ⟨rfl, rfl⟩
   go_simp
   refine wpG_c rfl rfl ?_
   intro w4 g4 K hK
   go_simp
   go_at_call 193
   refine (HSP.out w4).mono ?_
   rintro e wn ⟨rfl, h5⟩
   subst h5; refine hK _ _ (Gr.refl _) ?_; have G5 := Lib.hid ((Gr.drew w3).trans g4); clear g4 hK
   go_simp
   iterate 4
    refine wPe rfl rfl ?_
    apply Exists.intro
    refine ⟨fun wq => ?_, ?_⟩
    · unfold pLa
      go_simp
      first | exact rfl | exact ⟨rfl, rfl⟩
    go_simp
   refine wQe rfl rfl ?_
   apply Exists.intro
   refine ⟨fun wq hq => ?_, ?_⟩
   · have z4 := (K3.out.mono (G5.out.trans hq)).cell 4
     unfold pLa
     go_simp
     first | exact rfl | exact ⟨rfl, rfl⟩
   go_simp
   refine wQe rfl rfl ?_
   apply Exists.intro
   refine ⟨fun wq hq => ?_, ?_⟩
   · have k0 := (GB.out.mono (G3.out.trans (G5.out.trans hq))).cell 0; have k1 := (GB.out.mono (G3.out.trans (G5.out.trans hq))).cell 1; have k2 := (GB.out.mono (G3.out.trans (G5.out.trans hq))).cell 2
     unfold pLa
     go_simp
     first | exact rfl | exact ⟨rfl, rfl⟩
   go_simp
   refine wpG_c rfl rfl ?_
   intro w6 g6 K hK
   go_simp
   go_at_call 195
   refine (HMK.out w6).mono ?_
   rintro e wn ⟨A7, c7, rfl, o7⟩
   refine hK _ _ o7.below ?_; obtain ⟨_, _, hv7, s7⟩ := o7.slice; injection hv7 with e1 _ e2; subst e1 e2; have S7 : Hid (Bs wn A7 3 c7 (markG a d l)) := s7; have G7 := Lib.hid ((G5.out.trans g6).trans o7.below); clear g6 o7 s7 hK
   go_simp
   refine wpG_c rfl rfl ?_
   intro w8 g8 K hK
   go_simp
   go_at_call 105
   refine (HSA.out A7 c7 w8 (G7.out.trans g8) (S7.out.mono g8)).mono ?_
   rintro e wn ⟨rfl, h9⟩
   subst h9; refine hK _ _ (Gr.refl _) ?_; have G9 := Lib.hid (G7.out.trans g8); clear g8 hK
   go_simp
   iterate 2
    refine wPe rfl rfl ?_
    apply Exists.intro
    refine ⟨fun wq => ?_, ?_⟩
    · unfold pLa
      go_simp
      first | exact rfl | exact ⟨rfl, rfl⟩
    go_simp
   refine wNi ?_
   intro w12 g12
   have K12 := Lib.hid (RB.out.mono (G3.out.trans (G9.out.trans g12)))
   have S12 := K3.out.mono (G9.out.trans g12)
   have G12 := Lib.hid (G03.out.trans (G9.out.trans g12))
   have s1 := S12.cell 1
   have s2 := S12.cell 2
   have s3 := S12.cell 3
   clear g12 S12
   go_wp2_with (refine wpList_store_row rfl 108 (.tmp 8) (.tmp 83) rfl (w.heap.size + 1) (sprC ⟨X.life, X.seq, X.gen⟩) rfl rfl 108 (sprC spr0) K12.out sprSize rfl (sprOne _) ?_)
   have HN := setRow_heap w12 (w.heap.size + 1) _ (sprC ⟨X.life, X.seq, X.gen⟩) _ _ K12.out
   exact bodyPost_ret (results_spr3 Tryz.results130 _ _ (w.heap.size + 1) _ _ rfl HN rfl) rfl ⟨rfl, bRb G12.out (by omega) _⟩
end
end
end Go.Proofs.YtdkmlmbehlooiaaGreatDoor
