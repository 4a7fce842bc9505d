/- Own texts of this claim, one behind the other. No condition. -/
import Derived.Test.YtcfbbgbjlgonpaaGreatDoorObPkAB
import Derived.Test.YtcfbbgbjlgonpaaGreatDoorObPkBE
import Derived.Test.YtcfbbgbjlgonpaaGreatDoorObPkBO
import Derived.Test.YtcfbbgbjlgonpaaGreatDoorObPkBP
import Derived.Test.YtcfbbgbjlgonpaaGreatDoorObPkBQ

/- No suite: what a nil one tells. No condition. -/
namespace Go.Proofs.YtcfbbgbjlgonpaaGreatDoor
open Go.RowKit
set_option linter.unusedVariables false
set_option linter.unusedSimpArgs false
theorem noneNil_any (w : World) : Calls Tryz.prog 32 #[.pointer none] w fun e w' => e = .returned (.bool true) ∧ w = w' := by
  go_enter Tryz.func32, Tryz.ntmps32
  go_wp2_with fail
  go_ret
  exact ⟨rfl, rfl⟩
theorem nilTerms_any (w : World) : Calls Tryz.prog 10 #[.pointer none] w fun e w' => e = .returned (.pointer none) ∧ w = w' := by
  have HN := Lib.hid (noneNil_any w)
  go_enter Tryz.func10, Tryz.ntmps10
  go_wp2_with fail
  first | go_step3 | skip
  go_wp2_with fail
  refine HN.out.mono ?_
  rintro e w1 ⟨rfl, h1⟩
  rw [← h1]
  clear h1 w1
  go_wp2_with fail
  try rw [Exit.noGoto_ret]
  go_ret
  exact ⟨rfl, rfl⟩
theorem nilDraw_any (w : World) : Calls Tryz.prog 22 #[.pointer none] w fun e w' => e = .returned (.slice none 0 0) ∧ w = w' := by
  have HN := Lib.hid (noneNil_any w)
  go_enter Tryz.func22, Tryz.ntmps22
  go_wp2_with fail
  first | go_step3 | skip
  go_wp2_with fail
  refine HN.out.mono ?_
  rintro e w1 ⟨rfl, h1⟩
  rw [← h1]
  clear h1 w1
  go_wp2_with fail
  try rw [Exit.noGoto_ret]
  go_ret
  exact ⟨rfl, rfl⟩
theorem nilSeal_any (A B : Option Addr) (n c m d : Nat) (w : World) : Calls Tryz.prog 18 #[.pointer none, .slice A n c, .slice B m d] w fun e w' => e = .returned (.slice none 0 0) ∧ w = w' := by
  have HN := Lib.hid (noneNil_any w)
  go_enter Tryz.func18, Tryz.ntmps18
  go_wp2_with fail
  first | go_step3 | skip
  go_wp2_with fail
  refine HN.out.mono ?_
  rintro e w1 ⟨rfl, h1⟩
  rw [← h1]
  clear h1 w1
  go_wp2_with fail
  try rw [Exit.noGoto_ret]
  go_ret
  exact ⟨rfl, rfl⟩
theorem nilOpen_any (A B : Option Addr) (n c m d : Nat) (w : World) : Calls Tryz.prog 19 #[.pointer none, .slice A n c, .slice B m d] w fun e w' => e = .returned (.tuple #[.slice none 0 0, .bool false]) ∧ w = w' := by
  have HN := Lib.hid (noneNil_any w)
  go_enter Tryz.func19, Tryz.ntmps19
  go_wp2_with fail
  first | go_step3 | skip
  go_wp2_with fail
  refine HN.out.mono ?_
  rintro e w1 ⟨rfl, h1⟩
  rw [← h1]
  clear h1 w1
  go_wp2_with fail
  try rw [Exit.noGoto_ret]
  go_ret2
  exact ⟨rfl, rfl⟩
theorem nilDerive_any (A : Option Addr) (n c : Nat) (s : ByteArray) (w : World) : Calls Tryz.prog 23 #[.pointer none, .slice A n c, .string s] w fun e w' => e = .returned (.slice none 0 0) ∧ w = w' := by
  have HN := Lib.hid (noneNil_any w)
  go_enter Tryz.func23, Tryz.ntmps23
  go_wp2_with fail
  first | go_step3 | skip
  go_wp2_with fail
  refine HN.out.mono ?_
  rintro e w1 ⟨rfl, h1⟩
  rw [← h1]
  clear h1 w1
  go_wp2_with fail
  try rw [Exit.noGoto_ret]
  go_ret
  exact ⟨rfl, rfl⟩
theorem nilMix_any (A B : Option Addr) (n c m d : Nat) (w : World) : Calls Tryz.prog 24 #[.pointer none, .slice A n c, .slice B m d] w fun e w' => e = .returned (.slice none 0 0) ∧ w = w' := by
  have HN := Lib.hid (noneNil_any w)
  go_enter Tryz.func24, Tryz.ntmps24
  go_wp2_with fail
  first | go_step3 | skip
  go_wp2_with fail
  refine HN.out.mono ?_
  rintro e w1 ⟨rfl, h1⟩
  rw [← h1]
  clear h1 w1
  go_wp2_with fail
  try rw [Exit.noGoto_ret]
  go_ret
  exact ⟨rfl, rfl⟩
theorem nilSum_any (A : Option Addr) (n c : Nat) (w : World) : Calls Tryz.prog 21 #[.pointer none, .slice A n c] w fun e w' => e = .returned (.slice none 0 0) ∧ w = w' := by
  have HN := Lib.hid (noneNil_any w)
  go_enter Tryz.func21, Tryz.ntmps21
  go_wp2_with fail
  first | go_step3 | skip
  go_wp2_with fail
  refine HN.out.mono ?_
  rintro e w1 ⟨rfl, h1⟩
  rw [← h1]
  clear h1 w1
  go_wp2_with fail
  try rw [Exit.noGoto_ret]
  go_ret
  exact ⟨rfl, rfl⟩
theorem nilCheck_any (A B : Option Addr) (n c m d : Nat) (w : World) : Calls Tryz.prog 20 #[.pointer none, .slice A n c, .slice B m d] w fun e w' => e = .returned (.bool false) ∧ w = w' := by
  have HN := Lib.hid (noneNil_any w)
  go_enter Tryz.func20, Tryz.ntmps20
  go_wp2_with fail
  first | go_step3 | skip
  go_wp2_with fail
  refine HN.out.mono ?_
  rintro e w1 ⟨rfl, h1⟩
  rw [← h1]
  clear h1 w1
  go_wp2_with fail
  try rw [Exit.noGoto_ret]
  go_ret
  exact ⟨rfl, rfl⟩
theorem nilHandle_any (i : Int) (w : World) : Calls Tryz.prog 12 #[.pointer none, .int .i64 i] w fun e w' => e = .returned (.slice none 0 0) ∧ w = w' := by
  have HN := Lib.hid (noneNil_any w)
  go_enter Tryz.func12, Tryz.ntmps12
  go_wp2_with fail
  first | go_step3 | skip
  go_wp2_with fail
  refine HN.out.mono ?_
  rintro e w1 ⟨rfl, h1⟩
  rw [← h1]
  clear h1 w1
  go_wp2_with fail
  try rw [Exit.noGoto_ret]
  go_ret
  exact ⟨rfl, rfl⟩
theorem nilFind_any (A : Option Addr) (n c : Nat) (w : World) : Calls Tryz.prog 25 #[.pointer none, .slice A n c] w fun e w' => e = .returned (.slice none 0 0) ∧ w = w' := by
  have HN := Lib.hid (noneNil_any w)
  go_enter Tryz.func25, Tryz.ntmps25
  go_wp2_with fail
  first | go_step3 | skip
  go_wp2_with fail
  refine HN.out.mono ?_
  rintro e w1 ⟨rfl, h1⟩
  rw [← h1]
  clear h1 w1
  go_wp2_with fail
  try rw [Exit.noGoto_ret]
  go_ret
  exact ⟨rfl, rfl⟩
theorem nilTerm_any (A : Option Addr) (n c : Nat) (w : World) : Calls Tryz.prog 14 #[.pointer none, .slice A n c] w fun e w' => e = .returned (.int .i64 0) ∧ w = w' := by
  have HN := Lib.hid (noneNil_any w)
  go_enter Tryz.func14, Tryz.ntmps14
  go_wp2_with fail
  first | go_step3 | skip
  go_wp2_with fail
  refine HN.out.mono ?_
  rintro e w1 ⟨rfl, h1⟩
  rw [← h1]
  clear h1 w1
  go_wp2_with fail
  try rw [Exit.noGoto_ret]
  go_ret
  exact ⟨rfl, rfl⟩
end Go.Proofs.YtcfbbgbjlgonpaaGreatDoor

/- A suite of terms beside a real one. No condition. -/
namespace Go.Proofs.YtcfbbgbjlgonpaaGreatDoor
open Go.RowKit
set_option linter.unusedVariables false
set_option linter.unusedSimpArgs false
theorem Blk.ne_ty {w : World} {g q : Nat} {t u : TypeId} {cs ds : List Value} (h : Blk w g t cs) (hs : Blk w q u ds) (ht : t ≠ u) : g ≠ q := by
  rintro rfl
  have e := h.symm.trans hs
  injection e with e
  injection e with _ e2
  exact ht e2
theorem SymS.base {w0 w1 w : World} {p g bm bs : Nat} {T : List Nd} (h : SymS w1 w p g bm bs T) (hb : Gr w0 w1) : SymS w0 w p g bm bs T := by
  obtain ⟨vl, vs, ht⟩ := h.t
  exact ⟨h.blk, ⟨vl, vs, ⟨⟨ht.x.blk, ht.x.l.base hb, ht.x.s.base hb, Nat.le_trans hb.size ht.x.ge, Nat.le_trans hb.size ht.x.gm⟩, ht.m⟩⟩, h.i⟩
/-- What a draw of a real suite's source leaves. -/
theorem SymS.src {w0 w : World} {p g bm bs q : Nat} {T : List Nd} {cs : List Value} (h : SymS w0 w p g bm bs T) (hs : Blk w q 108 cs) (hq : w0.heap.size ≤ q) (v : Value) : SymS w0 (w.setCell ⟨q, 1, none⟩ v) p g bm bs T := by
  obtain ⟨vl, vs, ht⟩ := h.t
  have k : Tch (fun b => b = q) w (w.setCell ⟨q, 1, none⟩ v) := Tch.set ⟨q, 1, none⟩ v rfl
  refine ⟨h.blk.far (p := ⟨q, 1, none⟩) (h.blk.ne_ty hs (by decide)) v, ⟨vl, vs, ⟨⟨ht.x.blk.far (p := ⟨q, 1, none⟩) (ht.x.blk.ne_ty hs (by decide)) v, ?_, ?_, ht.x.ge, ht.x.gm⟩, ht.m.keep (Below.heap_setCell w ⟨q, 1, none⟩ v bm (ht.m.ne_blk hs))⟩⟩, h.i⟩
  · exact ht.x.l.tch k (fun b hb => by rw [hb]; exact hq) (fun b hb e => ht.x.l.not_blk hs (by decide) (by rw [hb, e]))
  · exact ht.x.s.tch k (fun b hb => by rw [hb]; exact hq) (fun b hb e => ht.x.s.not_blk hs (by decide) (by rw [hb, e]))
end Go.Proofs.YtcfbbgbjlgonpaaGreatDoor

/- An act on a real suite, and on the document's: what stands. No condition. -/
namespace Go.Proofs.YtcfbbgbjlgonpaaGreatDoor
open Go.RowKit
set_option linter.unusedVariables false
set_option linter.unusedSimpArgs false
def BRow.ok (w : World) (r : BRow) : Prop := Bs w r.a r.n r.c r.l
/-- No byte. -/
def NoU8 (cs : List Value) : Prop := ∀ u ∈ cs, ∀ x : UInt8, u ≠ u8c x
theorem Bs.far {w : World} {A : Option Addr} {n c k : Nat} {t : TypeId} {l : List UInt8} {cs : List Value} (hb : Bs w A n c l) (hk : Blk w k t cs) (hn : NoU8 cs) (ds : Array Value) : Bs (w.setRow k ds) A n c l :=
  Sl.tch hb (by decide) (Tch.rowC (S := fun q => q = k) k ds rfl) (fun h0 b o e => Sl.not_blk hb (by decide) hk (fun u hu y hy => by
    rw [List.getElem?_map] at hy
    obtain ⟨z, _, rfl⟩ := Option.map_eq_some_iff.1 hy
    exact hn u hu z) h0 e)
theorem RealW.far {w : World} {g p : Nat} {A : Option Addr} {n c : Nat} {seed : List UInt8} {d k : Nat} {t : TypeId} {cs : List Value} (h : RealW w g p A n c seed d) (hk : Blk w k t cs) (hn : NoU8 cs) (hg : g ≠ k) (hp : p ≠ k) (ds : Array Value) : RealW (w.setRow k ds) g p A n c seed d :=
  ⟨(World.cell?_of_block (setRow_other w k g ds hg)).trans h.s, ⟨(setRow_other w k p ds hp).trans h.src.1, Bs.far h.src.2.1 hk hn ds, h.src.2.2⟩, h.ne, h.np, (World.cell?_of_block (setRow_other w k g ds hg)).trans h.t0⟩
structure DS (w : World) (g p : Nat) (A0 : Option Addr) (n0 c0 : Nat) (seed : List UInt8) (SA : Option Addr) (sn sc d : Nat) (k i j : Int) (x y : BRow) (s : List UInt8) (a b : BRow) (h dp : Nat) (R : List Value) (W : World) : Prop where
  re : RealW W g p A0 n0 c0 seed dp
  sd : Bs W SA sn sc seed
  ba : a.ok W
  bb : b.ok W
  sk : ShaK W
  xx : Xk W h (xs SA sn sc d)
  ak : Blk W (h + 1) 54 [.int .i64 k, .int .i64 i, .int .i64 j, x.v, y.v, .string ⟨s.toArray⟩]
  r : Xk W (h + 2) R
  t : Tch (fun q => q = p) w W
  sz : w.heap.size ≤ h
  gw : g < w.heap.size
  pw : p < w.heap.size
section
variable {w : World} {g p : Nat} {A0 : Option Addr} {n0 c0 : Nat} {seed : List UInt8} {SA : Option Addr} {sn sc d : Nat} {k i j : Int} {x y : BRow} {s : List UInt8} {a b : BRow} {h dp : Nat} {R : List Value} {W : World}
theorem DS.mono (q : DS w g p A0 n0 c0 seed SA sn sc d k i j x y s a b h dp R W) {W' : World} (e : Gr W W') : DS w g p A0 n0 c0 seed SA sn sc d k i j x y s a b h dp R W' :=
  ⟨q.re.mono e, q.sd.mono e, Sl.mono q.ba e, Sl.mono q.bb e, q.sk.mono e, e.blk q.xx, e.blk q.ak, e.blk q.r, q.t.trans (Tch.gr e), q.sz, q.gw, q.pw⟩
theorem DS.turn (q : DS w g p A0 n0 c0 seed SA sn sc d k i j x y s a b h dp R W) : DS w g p A0 n0 c0 seed SA sn sc d k i j x y s a b h (dp + 1) R (W.setCell ⟨p, 1, none⟩ (.int .i64 ((dp : Int) + 1))) := by
  have hs := q.re.src
  have h1 := q.sz; have h2 := q.pw
  exact ⟨q.re.drew, q.sd.setSrc hs _, Bs.setSrc q.ba hs _, Bs.setSrc q.bb hs _, q.sk.at (Below.heap_setCell W ⟨p, 1, none⟩ _ 1 (fun e => q.re.np e.symm)), Blk.far (p := ⟨p, 1, none⟩) q.xx (by show h ≠ p; omega) _, Blk.far (p := ⟨p, 1, none⟩) q.ak (by show h + 1 ≠ p; omega) _, Blk.far (p := ⟨p, 1, none⟩) q.r (by show h + 2 ≠ p; omega) _, q.t.trans (Tch.set ⟨p, 1, none⟩ _ rfl), q.sz, q.gw, q.pw⟩
/-- What an act leaves. -/
def RetDo (w : World) (g p : Nat) (A0 : Option Addr) (n0 c0 : Nat) (seed : List UInt8) (SA : Option Addr) (sn sc d : Nat) (b : BRow) (e : Ending) (w' : World) : Prop :=
  ∃ (rg rw : BRow) (f : Bool) (d' : Nat), e = .returned (.tuple #[rg.v, rw.v, .bool f, .bool f, xv SA sn sc d']) ∧ rg.l = rw.l ∧ rg.ok w' ∧ rw.ok w' ∧ rw.n ≤ b.n + 48 ∧ d' ≤ d + 1 ∧ RealW w' g p A0 n0 c0 seed d' ∧ Tch (fun q => q = p) w w' ∧ d ≤ d' ∧ FreshR w rw.a rw.n
theorem results_do {fn : Func} {p1 p2 p3 p4 p5 : Tmp} (hf : fn.results = #[.tmp p1, .tmp p2, .tmp p3, .tmp p4, .cell p5 33]) (tmps : Array Value) (w : World) (g : Nat) (A : Option Addr) (n c d : Nat)
    (hp : tmps.getD p5 undef = .pointer (some ⟨g, 0, none⟩)) (hg : Xk w g (xs A n c d)) :
    (results fn tmps).run Tryz.prog w = .ok (.tuple #[tmps.getD p1 undef, tmps.getD p2 undef, tmps.getD p3 undef, tmps.getD p4 undef, xv A n c d]) w := by
  have h1 := run_loadVar_row w g 33 33 (xs A n c d).toArray (0, 0) _ hg Tryz.underlying33 rfl (sizeX A n c d)
  have hp' : tmps[p5]?.getD undef = .pointer (some ⟨g, 0, none⟩) := by simpa using hp
  simp only [results, hf]
  simp [Sem.run_bind, Result.andThen, hp', asAddr, h1, xv]
/-- The act's end: its results are laid. -/
theorem DS.ended (q : DS w g p A0 n0 c0 seed SA sn sc d k i j x y s a b h dp xz W) (d' : Nat) (rg rw : BRow) (hg : rg.ok W) (hr : rw.ok W) :
    Xk (W.setRow (h + 2) (xs SA sn sc d').toArray) (h + 2) (xs SA sn sc d') ∧ rg.ok (W.setRow (h + 2) (xs SA sn sc d').toArray) ∧ rw.ok (W.setRow (h + 2) (xs SA sn sc d').toArray) ∧ RealW (W.setRow (h + 2) (xs SA sn sc d').toArray) g p A0 n0 c0 seed dp ∧ Tch (fun q => q = p) w (W.setRow (h + 2) (xs SA sn sc d').toArray) := by
  have h1 := q.sz; have h2 := q.pw; have h3 := q.gw
  exact ⟨q.r.row _, Bs.far hg q.r xz_not _, Bs.far hr q.r xz_not _, q.re.far q.r xz_not (by omega) (by omega) _, q.t.trans' (Tch.rowC (S := fun q => q = h + 2) (h + 2) _ rfl) (fun u hu e => by omega)⟩
end
def xact (k i j : Int) (x y : BRow) (s : List UInt8) : Value := .agg #[.int .i64 k, .int .i64 i, .int .i64 j, x.v, y.v, .string ⟨s.toArray⟩]
def dw (w : World) (SA : Option Addr) (sn sc d : Nat) (k i j : Int) (x y : BRow) (s : List UInt8) : World :=
  ((w.alloc (.cells #[.bool true, .slice SA sn sc, .int .i64 (d : Int), .slice none 0 0, .slice none 0 0] 33)).alloc (.cells #[.int .i64 k, .int .i64 i, .int .i64 j, .slice x.a x.n x.c, .slice y.a y.n y.c, .string ⟨s.toArray⟩] 54)).alloc (.cells #[.bool false, .slice none 0 0, .int .i64 0, .slice none 0 0, .slice none 0 0] 33)
theorem dw_s {w : World} {g p : Nat} {A0 : Option Addr} {n0 c0 : Nat} {seed : List UInt8} {SA : Option Addr} {sn sc d : Nat} (k i j : Int) (x y : BRow) (s : List UInt8) {a b : BRow} (re : RealW w g p A0 n0 c0 seed d) (sd : Bs w SA sn sc seed) (ba : a.ok w) (bb : b.ok w) (sk : ShaK w) :
    DS w g p A0 n0 c0 seed SA sn sc d k i j x y s a b w.heap.size d xz (dw w SA sn sc d k i j x y s) := by
  obtain ⟨w1, h1⟩ : ∃ w1, w1 = w.alloc (.cells #[.bool true, .slice SA sn sc, .int .i64 (d : Int), .slice none 0 0, .slice none 0 0] 33) := ⟨_, rfl⟩
  obtain ⟨w2, h2⟩ : ∃ w2, w2 = w1.alloc (.cells #[.int .i64 k, .int .i64 i, .int .i64 j, .slice x.a x.n x.c, .slice y.a y.n y.c, .string ⟨s.toArray⟩] 54) := ⟨_, rfl⟩
  have e : dw w SA sn sc d k i j x y s = w2.alloc (.cells #[.bool false, .slice none 0 0, .int .i64 0, .slice none 0 0, .slice none 0 0] 33) := by rw [h2, h1]; rfl
  have s1 : w1.heap.size = w.heap.size + 1 := by rw [h1]; simp
  have s2 : w2.heap.size = w.heap.size + 2 := by rw [h2]; simp [s1]
  have g1 : Gr w w1 := by rw [h1]; exact Gr.alloc _ _
  have g2 : Gr w1 w2 := by rw [h2]; exact Gr.alloc _ _
  rw [e]
  have G : Gr w (w2.alloc (.cells #[.bool false, .slice none 0 0, .int .i64 0, .slice none 0 0, .slice none 0 0] 33)) := (g1.trans g2).trans (Gr.alloc _ _)
  refine ⟨re.mono G, sd.mono G, Sl.mono ba G, Sl.mono bb G, sk.mono G, (g2.trans (Gr.alloc _ _)).blk (by rw [h1]; exact heap_alloc_new w _), (Gr.alloc _ _).blk ?_, ?_, Tch.gr G, Nat.le_refl _, World.block_lt_of_cell? w _ re.s, re.src.1.lt⟩
  · have := Blk.new w1 54 #[.int .i64 k, .int .i64 i, .int .i64 j, .slice x.a x.n x.c, .slice y.a y.n y.c, .string ⟨s.toArray⟩]
    rw [s1, ← h2] at this
    exact this
  · have := Blk.new w2 33 #[.bool false, .slice none 0 0, .int .i64 0, .slice none 0 0, .slice none 0 0]
    rw [s2] at this
    exact this
end Go.Proofs.YtcfbbgbjlgonpaaGreatDoor
