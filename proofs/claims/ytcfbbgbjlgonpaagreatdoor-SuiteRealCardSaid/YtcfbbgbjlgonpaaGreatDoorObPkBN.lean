/- Own texts of this claim, one behind the other. No condition. -/
import Derived.Test.YtcfbbgbjlgonpaaGreatDoorObPkAK
import Derived.Test.YtcfbbgbjlgonpaaGreatDoorObPkAM
import Derived.Test.YtcfbbgbjlgonpaaGreatDoorObPkBE
import Derived.Test.YtcfbbgbjlgonpaaGreatDoorObPkBL
import Derived.Test.YtcfbbgbjlgonpaaGreatDoorObPkBM

/- The reference of layers 6 and 14: sums, draws. No condition. -/
namespace Go.Proofs.YtcfbbgbjlgonpaaGreatDoor
open Go.RowKit
set_option linter.unusedVariables false
set_option linter.unusedSimpArgs false
theorem and_one32 (c : UInt32) : c &&& 1 = if c.toNat % 2 = 1 then 1 else 0 := by
  apply UInt32.toNat_inj.1
  rw [UInt32.toNat_and]
  show c.toNat &&& 1 = _
  rw [Nat.and_one_is_mod]
  split
  · rename_i h; rw [h]; rfl
  · rename_i h; show _ = 0; omega
theorem stepW_odd (c : UInt32) (h : c.toNat % 2 = 1) : stepW c = shrW c 1 ^^^ 3988292384 := by
  unfold stepW
  rw [and_one32, if_pos h]
  rfl
theorem stepW_even (c : UInt32) (h : ¬ c.toNat % 2 = 1) : stepW c = shrW c 1 := by
  unfold stepW
  rw [and_one32, if_neg h]
  show shrW c 1 ^^^ 0 = _
  rw [UInt32.xor_zero]
theorem refStep_any (c : UInt32) (w : World) : Calls Tryz.prog 182 #[.int .u32 (un c)] w fun e w' => e = .returned (.int .u32 (un (stepW c))) ∧ w = w' := by
  have h0 := un_nn c; have h1 := un_lt c
  have e1 := shr1 c
  by_cases h : c.toNat % 2 = 1
  · have t1 : (un c % 2 == 1) = true := by rw [beq_iff_eq]; unfold un; omega
    have HS := Lib.hid (stepW_odd c h)
    have HX : Hid (bits .xor .u32 (un (shrW c 1)) 3988292384 = un (shrW c 1 ^^^ 3988292384)) := w_xor (shrW c 1) 3988292384
    have HE := Lib.hid e1
    clear h e1
    go_enter Tryz.func182, Tryz.ntmps182
    go_wp2_with fail
    go_ret
    exact ⟨by rw [HS.out, ← HX.out, ← HE.out]; rfl, rfl⟩
  · have t1 : (un c % 2 == 1) = false := by rw [beq_eq_false_iff_ne]; unfold un; omega
    have HS := Lib.hid (stepW_even c h)
    have HE := Lib.hid e1
    clear h e1
    go_enter Tryz.func182, Tryz.ntmps182
    go_wp2_with fail
    go_ret
    exact ⟨by rw [HS.out, ← HE.out]; rfl, rfl⟩
set_option maxRecDepth 100000 in
set_option maxHeartbeats 1000000 in
theorem refRun_any (s : UInt32) (A : Option Addr) (n c : Nat) (l : List UInt8) (w : World) (h : Bs w A n c l) :
    Calls Tryz.prog 160 #[.int .u32 (un s), .slice A n c] w fun e w' => e = .returned (.int .u32 (un (crcTo s l n))) ∧ w = w' := by
  have hl : l.length = n := h.len
  have hcp := Sl.cap h; have hmx := Sl.max h
  have HL := Lib.hid hl; have HB := Lib.hid h
  clear h hl
  go_enter Tryz.func160, Tryz.ntmps160
  go_wp2_with fail
  go_loopw [0, 5] (fun v i wr => ∃ k : Nat, k ≤ n ∧ v = .int .u32 (un (crcTo s l k)) ∧ i = .int .i64 (k : Int) ∧ w = wr) (fun _ i _ => n - (Go.RowKit.intOf i).toNat)
  case atStart => exact ⟨0, Nat.zero_le _, rfl, rfl, rfl⟩
  case round =>
    obtain ⟨k, hk, rfl, rfl, rfl⟩ := hrel
    have p0 : (0 : Int) ≤ k := by omega
    by_cases hlt : k < n
    · have t0 : decide ((k : Int) < (n : Int)) = true := decide_eq_true (by omega)
      obtain ⟨b, o, rfl, hcell⟩ := Sl.addr HB.out (by omega)
      have cc := hcell k _ (u8c_at (l := l) (j := k) (by rw [HL.out]; exact hlt))
      have x1 : bits .xor .u32 (un (crcTo s l k)) (bAt l k) = un (crcTo s l k ^^^ (l.getD k 0).toUInt32) := w_byte (crcTo s l k) (l.getD k 0)
      have b0 := bAt_nn l k; have b1 := bAt_lt l k
      clear hcell
      go_wp2_with fail
      go_loopw [0, 6] (fun v i wr => ∃ j : Nat, j ≤ 8 ∧ v = .int .u32 (un (stepsW (crcTo s l k ^^^ (l.getD k 0).toUInt32) j)) ∧ i = .int .i64 (j : Int) ∧ w = wr) (fun _ i _ => 8 - (Go.RowKit.intOf i).toNat)
      case atStart => exact ⟨0, Nat.zero_le _, rfl, rfl, rfl⟩
      case round =>
        obtain ⟨j, hj, rfl, rfl, rfl⟩ := hrel
        have q0 : (0 : Int) ≤ j := by omega
        by_cases hj8 : j < 8
        · have t1 : decide ((j : Int) < 8) = true := decide_eq_true (by omega)
          have HST := Lib.hid (refStep_any (stepsW (crcTo s l k ^^^ (l.getD k 0).toUInt32) j) w)
          go_wp2_with (go_at_call 182; refine HST.out.mono ?_; rintro e w' ⟨rfl, rfl⟩)
          go_roundw
          case rel => exact ⟨j + 1, by omega, rfl, by go_num, by first | trivial | rfl⟩
          case measure => simp [Go.RowKit.intOf]; omega
        · obtain rfl : j = 8 := by omega
          have t1 : decide (((8 : Nat) : Int) < 8) = false := by decide
          go_wp2_with fail
          go_roundw
          case rel => exact ⟨k + 1, by omega, rfl, by go_num, by first | trivial | rfl⟩
          case measure => simp [Go.RowKit.intOf]; omega
    · obtain rfl : k = n := by omega
      have t0 : decide ((k : Int) < (k : Int)) = false := decide_eq_false (by omega)
      go_wp2_with fail
      go_ret
      exact ⟨rfl, rfl⟩
theorem refCrcOf_any (A : Option Addr) (n c : Nat) (l : List UInt8) (w : World) (h : Bs w A n c l) :
    Calls Tryz.prog 138 #[.slice A n c] w fun e w' => e = .returned (.int .u32 (un (crcW 0 l))) ∧ w = w' := by
  have hl : l.length = n := h.len
  have HR := Lib.hid (refRun_any 4294967295 A n c l w h)
  rw [show un 4294967295 = 4294967295 from rfl] at HR
  have e2 := w_all (crcTo 4294967295 l n)
  have HE : Hid (crcTo 4294967295 l n ^^^ 4294967295 = crcW 0 l) := by show _ = _; unfold crcW; rw [hl]; rfl
  clear h hl
  go_enter Tryz.func138, Tryz.ntmps138
  go_wp2_with fail
  refine HR.out.mono ?_
  rintro e w1 ⟨rfl, h1⟩
  rw [← h1]
  clear h1 w1
  go_wp2_with fail
  go_ret
  exact ⟨by rw [← HE.out]; rfl, rfl⟩
theorem refCrcBytes_any (A : Option Addr) (n c : Nat) (l : List UInt8) (w : World) (h : Bs w A n c l) :
    Calls Tryz.prog 108 #[.slice A n c] w (RetBs w (crcL l)) := by
  have HO := Lib.hid (refCrcOf_any A n c l w h)
  have u0 := un_nn (crcW 0 l)
  have u1 := un_lt (crcW 0 l)
  have HN : Hid (∀ w', Calls Tryz.prog 41 #[.int .u64 (un (crcW 0 l)), .int .i64 8] w' (RetBs w' (crcL l))) := fun w' => refPut_yes (crcW 0 l).toNat 8 w' (by have := u32_lt (crcW 0 l); omega) (by decide) (by decide)
  clear h
  go_enter Tryz.func108, Tryz.ntmps108
  go_wp2_with fail
  refine HO.out.mono ?_
  rintro e w1 ⟨rfl, h1⟩
  rw [← h1]
  clear h1 w1
  go_wp2_with fail
  refine (HN.out w).mono ?_
  rintro e w2 ⟨v2, rfl, o2⟩
  have O2 := Lib.hid o2
  clear o2
  go_wp2_with fail
  go_ret
  exact ⟨v2, rfl, O2.out⟩
/-! ### draws -/
theorem print_decR (i : Nat) : printL (i : Int) = Lib.decDigits i := by unfold printL; rw [if_neg (by omega)]; simp
theorem refAtR_any (A : Option Addr) (n c : Nat) (seed : List UInt8) (i : Nat) (w : World) (h : Bs w A n c seed) (hn : n ≤ 50000) (hi : i ≤ 4000) :
    Calls Tryz.prog 97 #[.slice A n c, .int .i64 i] w (RetRd w (drawL seed i)) := by
  have HH := Lib.hid h; clear h
  have HS := Lib.hid (drawS_str i)
  have HPD := Lib.hid (print_decR i)
  have hdl := dec_len i
  have hl : (drawS i).length ≤ 4006 := by unfold drawS; rw [List.length_append]; have := dec_len i; simp; omega
  go_enter Tryz.func97, Tryz.ntmps97
  go_wp2_with (first
    | (go_at_call 133; refine (refPrint_any i (i : Int) _ (by omega) (by omega)).mono ?_; rintro e w1 ⟨rfl, b1⟩; rw [HPD.out]; have B1 := Lib.hid b1; clear b1)
    | (go_at_call 106; rw [HS.out]; refine (refDerive_any A n c seed (drawS i) _ (HH.out.mono B1.out) hn (by omega)).mono ?_; rintro e w2 ⟨A2, c2, rfl, s2, b2⟩; have S2 := Lib.hid s2; have B2 := Lib.hid (below_both B1.out b2); clear s2 b2))
  go_ret
  exact ⟨A2, c2, rfl, S2.out, B2.out⟩
theorem refAtO_any (A : Option Addr) (n c : Nat) (seed : List UInt8) (i : Nat) (w : World) (h : Bs w A n c seed) (hn : n ≤ 50000) (hi : i ≤ 4000) :
    Calls Tryz.prog 97 #[.slice A n c, .int .i64 i] w (RetBs w (drawL seed i)) := by
  have HH := Lib.hid h; clear h
  have HS := Lib.hid (drawS_str i)
  have HPD := Lib.hid (print_decR i)
  have hdl := dec_len i
  have hl : (drawS i).length ≤ 4006 := by unfold drawS; rw [List.length_append]; have := dec_len i; simp; omega
  go_enter Tryz.func97, Tryz.ntmps97
  go_wp2_with (first
    | (go_at_call 133; refine (refPrint_any i (i : Int) _ (by omega) (by omega)).mono ?_; rintro e w1 ⟨rfl, b1⟩; rw [HPD.out]; have B1 := Lib.hid b1; clear b1)
    | (go_at_call 106; rw [HS.out]; refine (refDeriveO_any A n c seed (drawS i) _ (HH.out.mono B1.out) hn (by omega)).mono ?_; rintro e w2 ⟨v2, rfl, o2⟩; have O2 := Lib.hid (o2.base B1.out); clear o2))
  go_ret
  exact ⟨v2, rfl, O2.out⟩
set_option maxRecDepth 100000 in
set_option maxHeartbeats 1000000 in
theorem refBytes16_any (A : Option Addr) (n c : Nat) (seed : List UInt8) (d : Nat) (w : World) (h : Bs w A n c seed) (hn : n ≤ 50000) (hd : d ≤ 3000) :
    Calls Tryz.prog 99 #[.slice A n c, .int .i64 d, .int .i64 16] w fun e w' => ∃ A' c', e = .returned (.tuple #[.slice A' 16 c', .int .i64 ((d : Int) + 1)]) ∧ Bs w' A' 16 c' (nonceL seed d) ∧ Gr w w' := by
  have HA := Lib.hid (refAtR_any A n c seed d w h hn (by omega))
  clear h
  go_enter Tryz.func99, Tryz.ntmps99
  go_wp2_with fail
  refine wp_loop_rounds 2 ?_
  rw [rounds_succ]
  go_wp2_with fail
  refine HA.out.mono ?_
  rintro e w1 ⟨A1, c1, rfl, s1, g1⟩
  rw [drawL_len] at s1 ⊢
  have S1 := Lib.hid s1; have G1 := Lib.hid g1
  have q1 := s1.cap; have q2 := s1.max
  clear s1 g1 HA
  go_wp2_with (at_builtin; refine wpList_cat rfl (.tmp 20) (.tmp 23) 28 rfl tBytes rfl (Own.nil' G1.out _ _) rfl S1.out (one_bytes _) (by omega) ?_; intro v8 w8 own8; obtain ⟨A8, k8, rfl, sl8⟩ := own8.slice; have O8 := Lib.hid own8; have q8 := sl8.cap; have q9 := sl8.max; have S8 := Lib.hid sl8; clear own8 sl8)
  rw [rounds_succ]
  go_wp2_with fail
  have hx : ∀ W, (Instr.slice 28 (.slice A8 (0 + 32) k8) none (some (.int .i64 16)) none).run Tryz.prog W = .ok (.slice A8 16 k8) W := fun W => run_upto tBytes A8 (0 + 32) k8 16 (by omega) W
  go_wp2_with fail
  go_ret2
  refine ⟨A8, k8, rfl, ?_, O8.out.below⟩
  have h2 := S8.out.upto (k := 16) (by omega)
  rw [List.nil_append, ← List.map_take] at h2
  exact h2
end Go.Proofs.YtcfbbgbjlgonpaaGreatDoor

/- The reference of layer 17, of a seed. No condition. -/
namespace Go.Proofs.YtcfbbgbjlgonpaaGreatDoor
open Go.RowKit
set_option linter.unusedVariables false
set_option linter.unusedSimpArgs false
/-- The cells of the document's suite of a seed, with d draws. -/
def xs (A : Option Addr) (n c d : Nat) : List Value := [.bool true, .slice A n c, .int .i64 (d : Int), .slice none 0 0, .slice none 0 0]
def xz : List Value := [.bool false, .slice none 0 0, .int .i64 0, .slice none 0 0, .slice none 0 0]
def xv (A : Option Addr) (n c d : Nat) : Value := .agg (xs A n c d).toArray
theorem sizeX (A : Option Addr) (n c d : Nat) : (Tryz.prog.info? 33).map (·.size) = some (xs A n c d).toArray.size := by kernel_rfl
theorem sizeXc (A : Option Addr) (n c d : Nat) : (Tryz.prog.info? 33).map (·.size) = some (xs A n c d).length := by kernel_rfl
theorem oneX (A : Option Addr) (n c d : Nat) : (xs A n c d).toArray.all (·.oneCell') = true := by simp [xs, Value.oneCell']
abbrev Xk (w : World) (g : Nat) (cs : List Value) : Prop := Blk w g 33 cs
theorem Xk.row {w : World} {g : Nat} {cs : List Value} (h : Xk w g cs) (ds : List Value) : Xk (w.setRow g ds.toArray) g ds := setRow_heap w g _ _ _ _ h
theorem Xk.whole {w : World} {g : Nat} {cs : List Value} (h : Xk w g cs) : w.rangeAt g 0 cs := fun j v hv => by rw [Nat.zero_add, Blk.cell h]; exact hv
theorem results_x {fn : Func} {p u : Tmp} (h : fn.results = #[.cell p 33, .tmp u]) (tmps : Array Value) (w : World) (g : Nat) (A : Option Addr) (n c d : Nat)
    (hp : tmps.getD p undef = .pointer (some ⟨g, 0, none⟩)) (hg : Xk w g (xs A n c d)) :
    (results fn tmps).run Tryz.prog w = .ok (.tuple #[xv A n c d, tmps.getD u undef]) w := by
  rw [results_cell_tmp h, hp]
  simp only [asAddr, Sem.run_pure, Result.andThen, run_loadVar_row w g 33 33 (xs A n c d).toArray (0, 0) _ hg Tryz.underlying33 rfl (sizeX A n c d)]
  rfl
def xw (w : World) (A : Option Addr) (n c d : Nat) : World := (w.alloc (.cells #[.bool true, .slice A n c, .int .i64 (d : Int), .slice none 0 0, .slice none 0 0] 33)).alloc (.cells #[.bool false, .slice none 0 0, .int .i64 0, .slice none 0 0, .slice none 0 0] 33)
/-- The document's suite in a call: its own block, and the result's. -/
structure XM (w : World) (h : Nat) (xa xb : List Value) (W : World) : Prop where
  gr : Gr w W
  a : Xk W h xa
  b : Xk W (h + 1) xb
theorem XM.mono {w W W' : World} {h : Nat} {xa xb : List Value} (x : XM w h xa xb W) (g : Gr W W') : XM w h xa xb W' := ⟨x.gr.trans g, g.blk x.a, g.blk x.b⟩
theorem xw_m (w : World) (A : Option Addr) (n c d : Nat) : XM w w.heap.size (xs A n c d) xz (xw w A n c d) := ⟨(Gr.alloc _ _).trans (Gr.alloc _ _), (Gr.alloc _ _).blk (heap_alloc_new w _), heap_alloc2_new w _ _⟩
theorem XM.set {w W : World} {h : Nat} {A : Option Addr} {n c d : Nat} {xb : List Value} (x : XM w h (xs A n c d) xb W) (hw : w.heap.size ≤ h) : XM w h (xs A n c (d + 1)) xb (W.setCell ⟨h, 2, none⟩ (.int .i64 ((d : Int) + 1))) :=
  ⟨x.gr.setCell (p := ⟨h, 2, none⟩) hw _, Blk.set x.a 2 _, (Below.heap_setCell _ ⟨h, 2, none⟩ _ (h + 1) (by show h + 1 ≠ h; omega)).trans x.b⟩
theorem XM.ret {w W : World} {h : Nat} {xa xb : List Value} (x : XM w h xa xb W) (hw : w.heap.size ≤ h) (ds : List Value) : XM w h xa ds (W.setRow (h + 1) ds.toArray) :=
  ⟨byRow_below x.gr (by omega) _, (setRow_other W (h + 1) h _ (by omega)).trans x.a, x.b.row ds⟩
/-- Bytes stay where the document's suite turns. -/
theorem Bs.x {w w' : World} {A : Option Addr} {n c h : Nat} {l : List UInt8} {xa xb : List Value} (hb : Bs w A n c l) (ha : Xk w h xa) (hbb : Xk w (h + 1) xb) (na : ∀ u ∈ xa, ∀ x : UInt8, u ≠ u8c x) (nb : ∀ u ∈ xb, ∀ x : UInt8, u ≠ u8c x) (k : Tch (fun b => b = h ∨ b = h + 1) w w') : Bs w' A n c l := by
  have hx : ∀ cs : List Value, (∀ u ∈ cs, ∀ x : UInt8, u ≠ u8c x) → ∀ u ∈ cs, ∀ y, (l.map u8c)[0]? = some y → u ≠ y := fun cs hn u hu y hy => by
    rw [List.getElem?_map] at hy
    obtain ⟨z, _, rfl⟩ := Option.map_eq_some_iff.1 hy
    exact hn u hu z
  refine Sl.tch hb (by decide) k (fun hn b o e => ?_)
  have h1 := Sl.not_blk hb (by decide) ha (hx _ na) hn e
  have h2 := Sl.not_blk hb (by decide) hbb (hx _ nb) hn e
  rintro (q | q)
  · exact h1 q
  · exact h2 q
theorem xs_not (A : Option Addr) (n c d : Nat) : ∀ u ∈ xs A n c d, ∀ x : UInt8, u ≠ u8c x := fun u hu x e => by
  subst e
  simp [xs, u8c] at hu
theorem xz_not : ∀ u ∈ xz, ∀ x : UInt8, u ≠ u8c x := fun u hu x e => by
  subst e
  simp [xz, u8c] at hu
/-- New memory. -/
def FreshR (w : World) (A : Option Addr) (n : Nat) : Prop := ∀ b o, 0 < n → A = some ⟨b, o, none⟩ → w.heap.size ≤ b
theorem FreshR.nil (w : World) : FreshR w none 0 := fun b o _ e => by cases e
theorem Own.fresh {w0 w : World} {e : TypeId} {s n c : Nat} {A : Option Addr} {xs : List Value} (h : Own w0 w e s (.slice A n c) n xs) : FreshR w0 A n := fun b o hn ea => by
  obtain ⟨g, cap, rest, hv, hg, _⟩ := h.opened hn
  injection hv with hv
  rw [ea] at hv
  injection hv with hv
  injection hv with h1 h2
  omega
theorem FreshR.old {w0 w : World} {A : Option Addr} {n : Nat} (h : FreshR w A n) (hw : w0.heap.size ≤ w.heap.size) : FreshR w0 A n := fun b o hn e => Nat.le_trans hw (h b o hn e)
def RetX (w : World) (A : Option Addr) (n c d : Nat) (l : List UInt8) (e : Ending) (w' : World) : Prop :=
  ∃ A2 n2 c2, e = .returned (.tuple #[xv A n c d, .slice A2 n2 c2]) ∧ Bs w' A2 n2 c2 l ∧ Gr w w' ∧ FreshR w A2 n2
set_option maxRecDepth 100000 in
set_option maxHeartbeats 1000000 in
theorem xDraw_any (A : Option Addr) (n c d : Nat) (seed : List UInt8) (w : World) (hs : Bs w A n c seed) (hn : n ≤ 50000) (hd : d < 100) :
    Calls Tryz.prog 64 #[xv A n c d] w (RetX w A n c (d + 1) (drawL seed d)) := by
  unfold xv
  show Calls _ _ #[.agg #[.bool true, .slice A n c, .int .i64 (d : Int), .slice none 0 0, .slice none 0 0]] _ _
  obtain ⟨W, hW⟩ : ∃ W, W = xw w A n c d := ⟨_, rfl⟩
  have M0 := Lib.hid (xw_m w A n c d)
  rw [← hW] at M0
  unfold xw at hW
  have HW := Lib.hid hW
  clear hW
  have HA := Lib.hid (refAtO_any A n c seed d W (hs.mono M0.out.gr) hn (by omega))
  clear hs
  go_enter Tryz.func64, Tryz.ntmps64
  go_upto_region 1 with fail
  rw [← HW.out]
  obtain ⟨h, hh⟩ : ∃ h, h = w.heap.size := ⟨_, rfl⟩
  rw [← hh] at M0 ⊢
  have HH := Lib.hid hh; clear hh
  have c0 : W.cell? ⟨h, 0, none⟩ = some (.bool true) := M0.out.a.cell 0
  have c1 : W.cell? ⟨h, 1, none⟩ = some (.slice A n c) := M0.out.a.cell 1
  have c2 : W.cell? ⟨h, 2, none⟩ = some (.int .i64 (d : Int)) := M0.out.a.cell 2
  go_upto_region 4 with (go_at_call 97; refine HA.out.mono ?_; rintro e w1 ⟨v2, rfl, o2⟩; obtain ⟨A2, k2, rfl, s2⟩ := o2.slice; have F2 : Hid (FreshR w A2 (drawL seed d).length) := (Own.fresh o2).old M0.out.gr.size; have S2 : Hid (Bs w1 A2 (drawL seed d).length k2 (drawL seed d)) := s2; have M1 := Lib.hid (M0.out.mono o2.below); clear s2 o2 c0 c1 c2; have c2 : w1.cell? ⟨h, 2, none⟩ = some (.int .i64 (d : Int)) := M1.out.a.cell 2; have ff := Blk.free M1.out.a 2)
  have M2 := Lib.hid (M1.out.set (Nat.le_of_eq HH.out.symm))
  have T2 : Hid (Tch (fun b => b = h ∨ b = h + 1) w1 (w1.setCell ⟨h, 2, none⟩ (.int .i64 ((d : Int) + 1)))) := Tch.set ⟨h, 2, none⟩ _ (.inl rfl)
  have S3 := Lib.hid (Bs.x S2.out M1.out.a M1.out.b (xs_not _ _ _ _) xz_not T2.out)
  obtain ⟨W2, hW2⟩ : ∃ W2, W2 = w1.setCell ⟨h, 2, none⟩ (.int .i64 ((d : Int) + 1)) := ⟨_, rfl⟩
  rw [← hW2] at M2 S3 ⊢
  clear hW2 T2 c2 ff S2 M1
  go_wp2_with (first
    | (refine wpList_load_row rfl 33 (.tmp 1) rfl h rfl 33 (xs A n c (d + 1)).toArray (0, 0) _ M2.out.a Tryz.underlying33 rfl (sizeX _ _ _ _) ?_)
    | (refine wpList_store_row rfl 33 (.tmp 2) (.tmp 18) rfl (h + 1) (xs A n c (d + 1)).toArray rfl rfl 33 xz.toArray M2.out.b (sizeX _ _ _ _) rfl (oneX _ _ _ _) ?_))
  have M3 := M2.out.ret (Nat.le_of_eq HH.out.symm) (xs A n c (d + 1))
  exact bodyPost_ret (v := .tuple #[xv A n c (d + 1), .slice A2 _ k2]) (results_x Tryz.results64 _ _ (h + 1) A n c (d + 1) rfl M3.b) rfl ⟨A2, _, k2, rfl, Bs.x S3.out M2.out.a M2.out.b (xs_not _ _ _ _) xz_not (Tch.rowC (S := fun b => b = h ∨ b = h + 1) (h + 1) _ (.inr rfl)), M3.gr, F2.out⟩
set_option maxRecDepth 100000 in
set_option maxHeartbeats 1000000 in
theorem xSeal_not (A B C : Option Addr) (n c d m b q e : Nat) (w : World) (h32 : m ≠ 32) (h1 : m ≤ b) (h2 : b ≤ 9223372036854775807) :
    Calls Tryz.prog 65 #[xv A n c d, .slice B m b, .slice C q e] w (RetX w A n c d []) := by
  unfold xv
  show Calls _ _ #[.agg #[.bool true, .slice A n c, .int .i64 (d : Int), .slice none 0 0, .slice none 0 0], _, _] _ _
  have t1 : ((m : Int) != 32) = true := by rw [bne_iff_ne]; omega
  obtain ⟨W, hW⟩ : ∃ W, W = xw w A n c d := ⟨_, rfl⟩
  have M0 := Lib.hid (xw_m w A n c d)
  rw [← hW] at M0
  unfold xw at hW
  have HW := Lib.hid hW
  clear hW
  go_enter Tryz.func65, Tryz.ntmps65
  go_upto_region 1 with fail
  rw [← HW.out]
  obtain ⟨h, hh⟩ : ∃ h, h = w.heap.size := ⟨_, rfl⟩
  rw [← hh] at M0 ⊢
  have HH := Lib.hid hh; clear hh
  have c0 : W.cell? ⟨h, 0, none⟩ = some (.bool true) := M0.out.a.cell 0
  have c1 : W.cell? ⟨h, 1, none⟩ = some (.slice A n c) := M0.out.a.cell 1
  have c2 : W.cell? ⟨h, 2, none⟩ = some (.int .i64 (d : Int)) := M0.out.a.cell 2
  go_wp2_with (first
    | (refine wpList_load_row rfl 33 (.tmp 3) rfl h rfl 33 (xs A n c d).toArray (0, 0) _ M0.out.a Tryz.underlying33 rfl (sizeX _ _ _ _) ?_)
    | (refine wpList_store_row rfl 33 (.tmp 6) (.tmp 26) rfl (h + 1) (xs A n c d).toArray rfl rfl 33 xz.toArray M0.out.b (sizeX _ _ _ _) rfl (oneX _ _ _ _) ?_))
  have M3 := M0.out.ret (Nat.le_of_eq HH.out.symm) (xs A n c d)
  exact bodyPost_ret (v := .tuple #[xv A n c d, .slice none 0 0]) (results_x Tryz.results65 _ _ (h + 1) A n c d rfl M3.b) rfl ⟨none, 0, 0, rfl, Sl.nil _ _, M3.gr, FreshR.nil _⟩
set_option maxRecDepth 100000 in
set_option maxHeartbeats 2000000 in
theorem xSeal_any (A B C : Option Addr) (n c d b q e0 : Nat) (seed key text : List UInt8) (w : World) (hs : Bs w A n c seed) (hn : n ≤ 50000) (hd : d < 100) (hk : Bs w B 32 b key) (ht : Bs w C q e0 text) (hq : q ≤ 30000) :
    Calls Tryz.prog 65 #[xv A n c d, .slice B 32 b, .slice C q e0] w (RetX w A n c (d + 1) (boxL key (nonceL seed d) text)) := by
  unfold xv
  show Calls _ _ #[.agg #[.bool true, .slice A n c, .int .i64 (d : Int), .slice none 0 0, .slice none 0 0], _, _] _ _
  have t1 : decide ((60000 : Int) < q) = false := decide_eq_false (by omega)
  have k1 := hk.cap; have k2 := hk.max; have k3 := ht.cap; have k4 := ht.max
  obtain ⟨W, hW⟩ : ∃ W, W = xw w A n c d := ⟨_, rfl⟩
  have M0 := Lib.hid (xw_m w A n c d)
  rw [← hW] at M0
  unfold xw at hW
  have HW := Lib.hid hW
  clear hW
  have HA := Lib.hid (refBytes16_any A n c seed d W (hs.mono M0.out.gr) hn (by omega))
  have HK := Lib.hid (hk.mono M0.out.gr); have HT := Lib.hid (ht.mono M0.out.gr)
  clear hs hk ht
  go_enter Tryz.func65, Tryz.ntmps65
  go_upto_region 1 with fail
  rw [← HW.out]
  obtain ⟨h, hh⟩ : ∃ h, h = w.heap.size := ⟨_, rfl⟩
  rw [← hh] at M0 ⊢
  have HH := Lib.hid hh; clear hh
  have c0 : W.cell? ⟨h, 0, none⟩ = some (.bool true) := M0.out.a.cell 0
  have c1 : W.cell? ⟨h, 1, none⟩ = some (.slice A n c) := M0.out.a.cell 1
  have c2 : W.cell? ⟨h, 2, none⟩ = some (.int .i64 (d : Int)) := M0.out.a.cell 2
  go_upto_region 5 with (go_at_call 99; refine HA.out.mono ?_; rintro e w1 ⟨A2, k2', rfl, s2, g1⟩; have S2 := Lib.hid s2; have M1 := Lib.hid (M0.out.mono g1); have HK1 := Lib.hid (HK.out.mono g1); have HT1 := Lib.hid (HT.out.mono g1); have qq := s2.cap; have qm := s2.max; clear s2 g1 c0 c1 c2; have c2 : w1.cell? ⟨h, 2, none⟩ = some (.int .i64 (d : Int)) := M1.out.a.cell 2; have ff := Blk.free M1.out.a 2)
  go_upto_region 6 with fail
  have M2 := Lib.hid (M1.out.set (Nat.le_of_eq HH.out.symm))
  have T2 : Hid (Tch (fun b => b = h ∨ b = h + 1) w1 (w1.setCell ⟨h, 2, none⟩ (.int .i64 ((d : Int) + 1)))) := Tch.set ⟨h, 2, none⟩ _ (.inl rfl)
  have S3 := Lib.hid (Bs.x S2.out M1.out.a M1.out.b (xs_not _ _ _ _) xz_not T2.out)
  have K3 := Lib.hid (Bs.x HK1.out M1.out.a M1.out.b (xs_not _ _ _ _) xz_not T2.out)
  have C3 := Lib.hid (Bs.x HT1.out M1.out.a M1.out.b (xs_not _ _ _ _) xz_not T2.out)
  obtain ⟨W2, hW2⟩ : ∃ W2, W2 = w1.setCell ⟨h, 2, none⟩ (.int .i64 ((d : Int) + 1)) := ⟨_, rfl⟩
  rw [← hW2] at M2 S3 K3 C3 ⊢
  clear hW2 T2 c2 ff S2 M1 HK1 HT1
  have HSE := Lib.hid (refSeal_any B A2 C b k2' e0 q key (nonceL seed d) text W2 K3.out S3.out C3.out hq)
  go_upto_region 7 with (go_at_call 100; refine HSE.out.mono ?_; rintro e w3 ⟨v3, rfl, o3⟩; obtain ⟨A3, k3', rfl, s3⟩ := o3.slice; have F3 : Hid (FreshR w A3 (boxL key (nonceL seed d) text).length) := (Own.fresh o3).old M2.out.gr.size; have S4 := Lib.hid s3; have M3 := Lib.hid (M2.out.mono o3.below); clear o3 s3)
  go_wp2_with (first
    | (refine wpList_load_row rfl 33 (.tmp 3) rfl h rfl 33 (xs A n c (d + 1)).toArray (0, 0) _ M3.out.a Tryz.underlying33 rfl (sizeX _ _ _ _) ?_)
    | (refine wpList_store_row rfl 33 (.tmp 6) (.tmp 46) rfl (h + 1) (xs A n c (d + 1)).toArray rfl rfl 33 xz.toArray M3.out.b (sizeX _ _ _ _) rfl (oneX _ _ _ _) ?_))
  have M4 := M3.out.ret (Nat.le_of_eq HH.out.symm) (xs A n c (d + 1))
  exact bodyPost_ret (v := .tuple #[xv A n c (d + 1), .slice A3 _ k3']) (results_x Tryz.results65 _ _ (h + 1) A n c (d + 1) rfl M4.b) rfl ⟨A3, _, k3', rfl, Bs.x S4.out M3.out.a M3.out.b (xs_not _ _ _ _) xz_not (Tch.rowC (S := fun b => b = h ∨ b = h + 1) (h + 1) _ (.inr rfl)), M4.gr, F3.out⟩
end Go.Proofs.YtcfbbgbjlgonpaaGreatDoor
